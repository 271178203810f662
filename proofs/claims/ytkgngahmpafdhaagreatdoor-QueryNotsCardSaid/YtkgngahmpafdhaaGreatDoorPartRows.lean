/- What the document's Rows of layer 19 returns: as many rows as there are ends of lines, and one. Conditions: lengths. -/
import Derived.Test.YtkgngahmpafdhaaGreatDoorPartRef2
namespace Go.Proofs.YtkgngahmpafdhaaGreatDoor.PT
open Go.RowKit Mailsack MM

theorem infoStr : (Tryz.prog.info? 9).map (fun i => (i.zero, i.size, i.bytes)) = some (some (.string ⟨#[]⟩), 1, 16) := by kernel_rfl

/-- a slice of so many texts -/
def SomeRows (n : Nat) (w : World) (e : Ending) (w' : World) : Prop := ∃ A c, e = .returned (.slice A n c) ∧ Below w.heap.size w w'

structure RwI (s : ByteArray) (w : World) (fr k : Nat) (lv : Value) (L : List Bs) (wr : World) : Prop where
  own : OwnS wr w.heap.size lv L
  bel : Below w.heap.size w wr
  num : L.length + cc (s.data.toList.drop k) = cc s.data.toList
  len : L.length ≤ k
  not : k < fr → crlf s.data.toList k = false
  one : fr ≤ k + 1

theorem push_str {w w2 w1 : World} {tv v' : Value} {T : List Bs} {x : Bs} {o : Obj} (hT : OwnS w2 w.heap.size tv T) (hown : w1.ownsRow w.heap.size 9 1 v' (T.length + 1) (T.map strV ++ [strV x])) (hg : (w2.alloc o).grownBy w1 tv.ownBlock) (hb : Below w.heap.size w w2) :
    OwnS w1 w.heap.size v' (T ++ [x]) ∧ Below w.heap.size w w1 := ⟨OwnS.of hown, push_row hT hg hb hb.size⟩

set_option maxHeartbeats 1000000 in
set_option maxRecDepth 100000 in
theorem rows_any (s : ByteArray) (w : World) (hs : s.size < 4294967281) :
    Calls Tryz.prog 55 #[.string s] w (SomeRows (cc s.data.toList + 1) w) := by
  obtain ⟨i0, hi, hz0, hz1, hz2⟩ := info_parts infoStr
  go_enter Tryz.func55, Tryz.ntmps55
  go_wp2
  go_loopw [3, 4, 5] (fun lv fv iv wr => ∃ (fr k : Nat) (L : List Bs), k ≤ s.size ∧ fr ≤ s.size ∧ fv = .int .i64 fr ∧ iv = .int .i64 k ∧ Hid (RwI s w fr k lv L wr)) (fun _ _ iv _ => s.size - (intOf iv).toNat)
  case atStart => exact ⟨0, 0, [], Nat.zero_le _, Nat.zero_le _, rfl, rfl, Lib.hid ⟨OwnS.nil _ _, Below.refl _ _, by simp, Nat.le_refl _, fun h => absurd h (Nat.not_lt_zero _), Nat.zero_le _⟩⟩
  case round =>
    obtain ⟨fr, k, L, hk, hfk, rfl, rfl, hr⟩ := hrel
    have hlen := hr.out.len
    by_cases hlt : k < s.size
    · cases hc : crlf s.data.toList k
      · have hnx : Hid (∀ lv, RwI s w fr k lv L wr → True → RwI s w fr (k + 1) lv L wr) := Lib.hid (fun lv h _ => ⟨h.own, h.bel, by rw [← cc_not hc]; exact h.num, by omega, fun h' => by have := h.one; omega, by have := h.one; omega⟩)
        have hrel2 := Lib.hid (hnx.out _ hr.out trivial)
        by_cases h1 : fr ≤ k
        · by_cases h2 : k + 1 < s.size
          · have hcg := crlf_get s k h2
            rw [hc] at hcg
            by_cases h13 : s[k] = 13
            · have h10 : ¬ s[k + 1] = 10 := fun h => by have := hcg.2 ⟨h13, h⟩; cases this
              have b1 : ((s[k].toNat : Int) == 13) = true := by rw [h13]; rfl
              have b2 : ((s[k + 1].toNat : Int) == 10) = false := by
                rw [beq_eq_false_iff_ne]; intro e; exact h10 ((byte_eq (by decide)).1 e)
              clear hcg h13 h10 hc
              go_wp2
              go_roundw
              case rel => exact ⟨fr, k + 1, L, by omega, by omega, rfl, by go_num, hrel2⟩
              case measure => simp [intOf]; omega
            · have b1 : ((s[k].toNat : Int) == 13) = false := by
                rw [beq_eq_false_iff_ne]; intro e; exact h13 ((byte_eq (by decide)).1 e)
              clear hcg h13 hc
              go_wp2
              go_roundw
              case rel => exact ⟨fr, k + 1, L, by omega, by omega, rfl, by go_num, hrel2⟩
              case measure => simp [intOf]; omega
          · clear hc
            go_wp2
            go_roundw
            case rel => exact ⟨fr, k + 1, L, by omega, by omega, rfl, by go_num, hrel2⟩
            case measure => simp [intOf]; omega
        · clear hc
          go_wp2
          go_roundw
          case rel => exact ⟨fr, k + 1, L, by omega, by omega, rfl, by go_num, hrel2⟩
          case measure => simp [intOf]; omega
      · have h1 : fr ≤ k := by
          rcases Nat.lt_or_ge k fr with h | h
          · rw [hr.out.not h] at hc; cases hc
          · exact h
        have h2 : k + 1 < s.size := by
          have := (crlf_iff s.data.toList k).1 hc
          have := (List.getElem?_eq_some_iff.1 this.2).1
          rw [size_list] at this; exact this
        obtain ⟨h13, h10⟩ := (crlf_get s k h2).1 hc
        have b1 : ((s[k].toNat : Int) == 13) = true := by rw [h13]; rfl
        have b2 : ((s[k + 1].toNat : Int) == 10) = true := by rw [h10]; rfl
        have Hc := Lib.hid hc
        have Hx := Lib.hid (ext_any s fr k)
        clear h13 h10 hc
        go_wp2_with (at_builtin; refine wpList_append_lies _ rfl _ _ 22 rfl w.heap.size 9 i0 (.string ⟨#[]⟩) 1 16 Tryz.underlying22 hi hz0 hz1 hz2 rfl (by decide) _ _ _ rfl (hr.out.own.row.alloc _) ⟨wr.heap.size, 0, none⟩ 1 1 [Value.string (s.extract fr k)] rfl rfl (cell_one_new _ _ _) (one_cell_bytes _) (by decide) (by unfold maxLen; omega) (by omega) (by have := hr.out.bel.size; simp; omega) (wr.heap.size + 1) (by simp) ?_; intro g cap w1 hown hgrow hat hlt1)
        rw [Hx.out] at hown
        have hp := push_str hr.out.own hown hgrow hr.out.bel
        have h9 : Hid (RwI s w (k + 2) (k + 1) (.slice (some ⟨g, 0, none⟩) (L.length + 1) cap) (L ++ [(s.data.toList.drop fr).take (k - fr)]) w1) := Lib.hid (by
          refine ⟨hp.1, hp.2, ?_, by simp; omega, fun _ => crlf_next Hc.out, by omega⟩
          have := hr.out.num
          rw [(cc_at Hc.out).1] at this
          rw [List.length_append]
          simp
          omega)
        clear hown hgrow hp
        go_roundw
        case rel => exact ⟨k + 2, k + 1, _, by omega, by omega, by go_num, by go_num, h9⟩
        case measure => simp [intOf]; omega
    · have hks : k = s.size := by omega
      have hnum := hr.out.num
      rw [hks, ← size_list, List.drop_length] at hnum
      have Hn := Lib.hid hnum
      have Hx := Lib.hid (ext_drop s fr)
      clear hks hnum
      go_wp2_with (at_builtin; refine wpList_append_lies _ rfl _ _ 22 rfl w.heap.size 9 i0 (.string ⟨#[]⟩) 1 16 Tryz.underlying22 hi hz0 hz1 hz2 rfl (by decide) _ _ _ rfl (hr.out.own.row.alloc _) ⟨wr.heap.size, 0, none⟩ 1 1 [Value.string (s.extract fr s.size)] rfl rfl (cell_one_new _ _ _) (one_cell_bytes _) (by decide) (by unfold maxLen; omega) (by omega) (by have := hr.out.bel.size; simp; omega) (wr.heap.size + 1) (by simp) ?_; intro g cap w1 hown hgrow hat hlt1)
      rw [Hx.out] at hown
      have hp := push_str hr.out.own hown hgrow hr.out.bel
      go_ret
      refine ⟨some ⟨g, 0, none⟩, cap, ?_, hp.2⟩
      rw [← Hn.out]
      rfl
end Go.Proofs.YtkgngahmpafdhaaGreatDoor.PT
