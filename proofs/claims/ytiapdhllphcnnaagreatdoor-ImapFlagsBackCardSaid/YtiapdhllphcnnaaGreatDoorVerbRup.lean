/- What the document's Upper of layer 21 returns. Conditions: the text's length. -/
import Derived.Test.YtiapdhllphcnnaaGreatDoorVerbPlain
import Derived.Test.YtiapdhllphcnnaaGreatDoorVerbUpper
import Derived.Test.YtiapdhllphcnnaaGreatDoorBuilder
import Derived.Deep.AppendLies
namespace Go.Proofs.YtiapdhllphcnnaaGreatDoor.VB
open Go.RowKit Mailsack MM BU

theorem conv_one (W : World) (c : UInt8) : (convert 58 9 (.slice (some ⟨W.heap.size, 0, none⟩) 1 1)).run Tryz.prog (W.alloc (.cells #[.int .u8 c.toNat] 5)) = .ok (strV [c]) (W.alloc (.cells #[.int .u8 c.toNat] 5)) := by
  refine run_convert_bytes_back (P := Tryz.prog) (W.alloc (.cells #[.int .u8 c.toNat] 5)) _ _ 5 ⟨W.heap.size, 0, none⟩ 1 [c] Tryz.underlying58 Tryz.underlying5 Tryz.underlying9 (fun j hj => ?_)
  have hj0 : j = 0 := by simpa using hj
  subst hj0
  exact cell_one_new _ _ _ 0 _ rfl
/-- a row of bytes that the call owns -/
def OwnB (w : World) (base : Nat) (v : Value) (l : Bs) : Prop := w.ownsRow base 5 1 v l.length (l.map fun c => Value.int .u8 c.toNat)
theorem OwnB.nil (w : World) (base : Nat) : OwnB w base (.slice none 0 0) [] := World.ownsRow_nil w base _ _
theorem OwnB.of {w : World} {base : Nat} {v : Value} {l : Bs} {c : UInt8} (h : w.ownsRow base 5 1 v (l.length + 1) (l.map (fun c => Value.int .u8 c.toNat) ++ [.int .u8 c.toNat])) : OwnB w base v (l ++ [c]) := by
  unfold OwnB; rw [List.length_append, List.map_append]; exact h
theorem OwnB.alloc {w : World} {base : Nat} {v : Value} {l : Bs} (h : OwnB w base v l) (o : Obj) : (w.alloc o).ownsRow base 5 1 v l.length (l.map fun c => Value.int .u8 c.toNat) := World.ownsRow.alloc h o
theorem OwnB.form {w : World} {base : Nat} {v : Value} {l : Bs} (h : OwnB w base v l) : ∃ A c, v = .slice A l.length c ∧ l.length ≤ c := by
  rcases h.2 with ⟨h1, h2⟩ | ⟨g, cap, cur, h1, _, _, h2, _⟩
  · exact ⟨none, 0, by rw [h1, h2], by omega⟩
  · exact ⟨_, _, h1, h2⟩
theorem up_cap {c : UInt8} (h1 : 97 ≤ c.toNat) (h2 : c.toNat ≤ 122) : ((up c).toNat : Int) = (c.toNat : Int) - 32 := by
  rw [up_small h1 h2]; omega
theorem upTo_snoc {s : ByteArray} {k : Nat} (h : k < s.size) : upP (s.data.toList.take (k + 1)) = upP (s.data.toList.take k) ++ [up (s.data.toList.getD k 0)] := by
  have h' : k < s.data.toList.length := by rw [size_list]; exact h
  unfold upP
  rw [List.take_succ_eq_append_getElem h', List.map_append, List.getD_eq_getElem?_getD, List.getElem?_eq_getElem h']
  rfl
theorem push_row {E : TypeId} {size : Nat} {w w2 w1 : World} {B n : Nat} {tv : Value} {xs : List Value} {o : Obj} (hT : w2.ownsRow B E size tv n xs) (hg : (w2.alloc o).grownBy w1 tv.ownBlock) (hb : Below B w w2) (hB : B ≤ w2.heap.size) : Below B w w1 :=
  (hb.alloc hB o).grown hg (by simp; omega) (fun k hk => (World.ownsRow.lt hT k hk).1)
theorem conv_back {w : World} {base : Nat} {v : Value} {l : Bs} (h : OwnB w base v l) : (convert 58 9 v).run Tryz.prog w = .ok (strV l) w := by
  rcases h.2 with ⟨h1, h2⟩ | ⟨g, cap, cur, h1, _, _, h2, _⟩
  · have : l = [] := List.eq_nil_of_length_eq_zero h2
    subst this
    have h0 : ∀ W : World, (convert 58 9 (.slice none 0 0)).run Tryz.prog W = .ok (.string ⟨#[]⟩) W := fun _ => by kernel_rfl
    rw [h1]
    exact h0 w
  · rw [h1]
    refine run_convert_bytes_back w _ _ 5 ⟨g, 0, none⟩ cap l Tryz.underlying58 Tryz.underlying5 Tryz.underlying9 (fun j hj => ?_)
    exact World.ownsRow.cells h (g := g) (by rw [h1]; rfl) j _ (by simp [hj])

set_option maxHeartbeats 1000000 in
set_option maxRecDepth 100000 in
theorem rupper_any (s : ByteArray) (w : World) (hs : s.size < 4294967281) :
    Calls Tryz.prog 15 #[.string s] w fun e w' => e = .returned (strV (upP s.data.toList)) ∧ Below w.heap.size w w' := by
  obtain ⟨i0, hi, hz0, hz1, hz2⟩ := info_parts infoU8
  go_enter Tryz.func15, Tryz.ntmps15
  go_wp2
  go_loopw [3, 4] (fun lv iv wr => ∃ k : Nat, k ≤ s.size ∧ iv = .int .i64 k ∧ Hid (OwnB wr w.heap.size lv (upP (s.data.toList.take k))) ∧ Hid (Below w.heap.size w wr)) (fun _ iv _ => s.size - (intOf iv).toNat)
  case atStart => exact ⟨0, Nat.zero_le _, rfl, Lib.hid (OwnB.nil _ _), Lib.hid (Below.refl _ _)⟩
  case round =>
    obtain ⟨k, hk, rfl, ho, hb⟩ := hrel
    have hlen : (upP (s.data.toList.take k)).length = k := by rw [upP_length, List.length_take, size_list]; omega
    by_cases hlt : k < s.size
    · have hst := Lib.hid (upTo_snoc hlt)
      have hget : s[k] = s.data.toList.getD k 0 := by
        rw [List.getD_eq_getElem?_getD, List.getElem?_eq_getElem (by rw [size_list]; exact hlt)]; rfl
      have h256 : s[k].toNat < 256 := UInt8.toNat_lt _
      have HL := Lib.hid hlen
      have Hg := Lib.hid hget
      clear hlen hget
      by_cases hc : 97 ≤ s[k].toNat ∧ s[k].toNat ≤ 122
      · obtain ⟨hc1, hc2⟩ := hc
        go_wp2_with (at_builtin; refine wpList_append_lies _ rfl _ _ 58 rfl w.heap.size 5 i0 (.int .u8 0) 1 1 Tryz.underlying58 hi hz0 hz1 hz2 rfl (by decide) _ _ _ rfl (ho.out.alloc _) ⟨wr.heap.size, 0, none⟩ 1 1 [.int .u8 ((s[k].toNat : Int) - 32)] rfl rfl (cell_one_new _ _ _) (one_u8 _) (by decide) (by have := HL.out; unfold maxLen; omega) (by have := HL.out; omega) (by have := hb.out.size; simp; omega) (wr.heap.size + 1) (by simp) ?_; intro g cap w1 hown hgrow hat hlt1)
        have hb2 := push_row ho.out hgrow hb.out hb.out.size
        go_roundw
        case rel => exact ⟨k + 1, by omega, by go_num, Lib.hid (by
          rw [hst.out]
          refine OwnB.of ?_
          rw [← Hg.out, up_cap hc1 hc2]
          exact hown), Lib.hid hb2⟩
        case measure => simp [intOf]; omega
      · have hc' : s[k].toNat < 97 ∨ 122 < s[k].toNat := by omega
        have hup := Lib.hid (up_other hc)
        clear hc
        rcases hc' with hc' | hc'
        all_goals
          go_wp2_with (at_builtin; refine wpList_append_lies _ rfl _ _ 58 rfl w.heap.size 5 i0 (.int .u8 0) 1 1 Tryz.underlying58 hi hz0 hz1 hz2 rfl (by decide) _ _ _ rfl (ho.out.alloc _) ⟨wr.heap.size, 0, none⟩ 1 1 [.int .u8 (s[k].toNat : Int)] rfl rfl (cell_one_new _ _ _) (one_u8 _) (by decide) (by have := HL.out; unfold maxLen; omega) (by have := HL.out; omega) (by have := hb.out.size; simp; omega) (wr.heap.size + 1) (by simp) ?_; intro g cap w1 hown hgrow hat hlt1)
          have hb2 := push_row ho.out hgrow hb.out hb.out.size
          go_roundw
          case rel => exact ⟨k + 1, by omega, by go_num, Lib.hid (by
            rw [hst.out]
            refine OwnB.of ?_
            rw [← Hg.out, hup.out]
            exact hown), Lib.hid hb2⟩
          case measure => simp [intOf]; omega
    · have hk' : k = s.size := by omega
      have hcv := conv_back ho.out
      have Hk := Lib.hid hk'
      clear hk' hlen
      go_wp2
      go_ret
      refine ⟨?_, hb.out⟩
      rw [Hk.out, ← size_list, List.take_length]
      rfl
end Go.Proofs.YtiapdhllphcnnaaGreatDoor.VB
