/- What imap.FlagsOf and mailsackref22.FlagsOf return. Conditions: the row reads as these texts; lengths. -/
import Derived.Test.YtiapdhllphcnnaaGreatDoorImapFlags
namespace Go.Proofs.YtiapdhllphcnnaaGreatDoor.IM
open Go.RowKit Mailsack MM

def flOut : Option Nat → Value
  | none => .tuple #[.int .i64 0, .bool false]
  | some n => .tuple #[.int .i64 n, .bool true]
theorem flagsOf_step {L : List Bs} {k : Nat} {x : Bs} (h : L[k]? = some x) (n : Nat) : flagsOfP (L.drop k) n = if flagOfP x = 0 then none else flagsOfP (L.drop (k + 1)) (n ||| flagOfP x) := by
  have hk : k < L.length := (List.getElem?_eq_some_iff.1 h).1
  rw [List.drop_eq_getElem_cons hk]
  have : L[k] = x := (List.getElem?_eq_some_iff.1 h).2
  rw [this]
  rfl
theorem bits_or : ∀ n : Fin 32, ∀ m : Fin 32, bits BinOp.or IntKind.i64 ((n : Nat) : Int) ((m : Nat) : Int) = (((n : Nat) ||| (m : Nat) : Nat) : Int) := by decide +kernel

set_option maxHeartbeats 1000000 in
set_option maxRecDepth 100000 in
theorem flagsOf_any (lv : Value) (L : List Bs) (w : World) (hl : RdS w w.heap.size lv L) (hL : ∀ x ∈ L, x.length ≤ 1000000) (hn : L.length ≤ 1000000) :
    Calls Tryz.prog 6 #[lv] w fun e w' => e = .returned (flOut (flagsOfP L 0)) ∧ Below w.heap.size w w' := by
  obtain ⟨A, c, rfl, hc, hcell⟩ := hl
  have Hc := Lib.hid hcell
  have HL := Lib.hid hL
  clear hcell hL
  have H0 : Hid (flagsOfP L 0 = flagsOfP (L.drop 0) 0) := Lib.hid rfl
  generalize flagsOfP L 0 = R at H0 ⊢
  go_enter Tryz.func6, Tryz.ntmps6
  go_wp2
  go_loopw [4, 10] (fun nv iv wr => ∃ (k n : Nat), k ≤ L.length ∧ n < 32 ∧ nv = .int .i64 n ∧ iv = .int .i64 k ∧ Hid (R = flagsOfP (L.drop k) n ∧ Below w.heap.size w wr)) (fun _ iv _ => L.length - (intOf iv).toNat)
  case atStart => exact ⟨0, 0, Nat.zero_le _, by decide, rfl, rfl, Lib.hid ⟨H0.out, Below.refl _ _⟩⟩
  case round =>
    obtain ⟨k, n, hk, hn32, rfl, rfl, hr⟩ := hrel
    clear H0
    by_cases hlt : k < L.length
    · obtain ⟨b, off, rfl, hb, hcl⟩ := Hc.out (by omega)
      obtain ⟨x, hx⟩ : ∃ x, L[k]? = some x := ⟨_, List.getElem?_eq_getElem hlt⟩
      have q := (hr.out.2.cell (p := ⟨b, off + k, none⟩) hb).trans (hcl k x hx)
      have HS := Lib.hid (hr.out.1.trans (flagsOf_step hx n))
      have hxl := HL.out x (List.mem_of_getElem? hx)
      have HF := Lib.hid (fun W => flagOf_any ⟨x.toArray⟩ W hxl)
      rw [show (⟨x.toArray⟩ : ByteArray).data.toList = x from rfl] at HF
      have hf32 := flagOfP_lt x
      have HO := Lib.hid (bits_or ⟨n, hn32⟩ ⟨flagOfP x, hf32⟩)
      have HO2 := or_flag_lt hn32 x
      generalize flagOfP x = f at HS HF hf32 HO HO2
      clear hx hcl
      go_wp2_with fail
      refine (HF.out _).mono ?_
      rintro e w2 ⟨rfl, hb2⟩
      have HB2 := Lib.hid (hr.out.2.trans (hb2.mono hr.out.2.size))
      clear hb2 q
      by_cases hf0 : f = 0
      · subst hf0
        have hR : Hid (R = none) := Lib.hid (by rw [HS.out, if_pos rfl])
        go_wp2
        go_ret2
        exact ⟨by rw [hR.out]; rfl, HB2.out⟩
      · have hR : Hid (R = flagsOfP (L.drop (k + 1)) (n ||| f)) := Lib.hid (by rw [HS.out, if_neg hf0])
        have ne : ((f : Int) == 0) = false := by simp; omega
        have ne2 : ¬ (f : Int) = 0 := by omega
        have ho : bits BinOp.or IntKind.i64 (n : Int) (f : Int) = ((n ||| f : Nat) : Int) := HO.out
        go_wp2
        exact ⟨⟨k + 1, n ||| f, by omega, HO2, rfl, by go_num, Lib.hid ⟨hR.out, HB2.out⟩⟩, by simp [intOf]; omega⟩
    · have hR : Hid (R = some n) := Lib.hid (by rw [hr.out.1, List.drop_eq_nil_iff.2 (by omega)]; rfl)
      go_wp2
      go_ret2
      exact ⟨by rw [hR.out]; rfl, hr.out.2⟩
end Go.Proofs.YtiapdhllphcnnaaGreatDoor.IM
