/- The walk of the statement LinesPlain: it returns true, for any list of texts. Condition: the cell of the library's MaxLen holds some int. -/
import Derived.Test.YtmjmabpcpicemaaLinesAwake
import Derived.Test.YtmjmabpcpicemaaTakeMore
import Derived.Test.YtmjmabpcpicemaaLinesRlit
namespace Go.Proofs.Ytmjmabpcpicemaa.LN
open Go.RowKit Mailsack MM

/-- lines, one behind the other -/
def cat : List Bs → Bs
  | [] => []
  | x :: r => x ++ 13 :: 10 :: cat r
theorem cat_snoc (xs : List Bs) (x : Bs) : cat (xs ++ [x]) = cat xs ++ (x ++ [13, 10]) := by
  induction xs with
  | nil => simp [cat]
  | cons y r ih => simp [cat, ih]
/-- a line as the statement wants it -/
def plainLine (x : Bs) : Prop := (∀ c ∈ x, c ≠ 13) ∧ x.length ≤ 100 ∧ litP x = none
theorem cat_len : ∀ {xs : List Bs}, (∀ x ∈ xs, plainLine x) → (cat xs).length ≤ 102 * xs.length
  | [], _ => by simp [cat]
  | x :: r, h => by
    have h1 := (h x (by simp)).2.1
    have h2 := cat_len (xs := r) (fun y hy => h y (by simp [hy]))
    simp [cat]; omega
theorem take_cat {x : Bs} {r : List Bs} (h : plainLine x) : takeP (cat (x :: r)) = ⟨[x], [], cat r, 1, 0⟩ := takeP_line h.1 (by have := h.2.1; omega) h.2.2

set_option maxHeartbeats 2000000 in
set_option maxRecDepth 100000 in
theorem law_plain (v : Value) (xs : List Bs) (m : Int) (w : World) (hm : w.cell? ⟨0, 0, none⟩ = some (.int .i64 m)) (hx : RdS w w.heap.size v xs) (hxl : ∀ x ∈ xs, x.length ≤ 9223372036854775807) (hxs : xs.length ≤ 9223372036854775807) :
    Calls Try.prog 6 #[v] w fun e w' => e = .returned (.bool true) ∧ Below w.heap.size w w' := by
  have hw0 : 0 < w.heap.size := World.block_lt_of_cell? w _ hm
  have Hm := Lib.hid hm
  have Hx := Lib.hid hx
  obtain ⟨A, c, rfl, hc, hcell⟩ := hx
  have Hc := Lib.hid hcell
  have Hxl := Lib.hid hxl
  clear hm hcell hxl
  by_cases hbig : 20 < xs.length
  · go_enter Try.func6, Try.ntmps6
    go_wp2_with fail
    refine (awake_any m _ Hm.out).mono ?_
    rintro e w1 ⟨rfl, hb⟩
    go_wp2
    go_ret
    exact ⟨rfl, hb⟩
  go_enter Try.func6, Try.ntmps6
  go_wp2
  go_loop [3, 21] (fun sv iv => ∃ (k : Nat) (S : ByteArray), k ≤ xs.length ∧ iv = .int .i64 k ∧ sv = .string S ∧ Hid (S.data.toList = cat (xs.take k) ∧ ∀ x ∈ xs.take k, plainLine x)) (fun _ iv => xs.length - (intOf iv).toNat)
  case atStart => exact ⟨0, ⟨#[]⟩, Nat.zero_le _, rfl, rfl, Lib.hid ⟨rfl, by simp⟩⟩
  case round =>
    obtain ⟨k, S, hk, rfl, rfl, hr⟩ := hrel
    by_cases hlt : k < xs.length
    · obtain ⟨b, off, rfl, _, hc1⟩ := Hc.out (by omega)
      obtain ⟨x, hx1⟩ : ∃ x, xs[k]? = some x := ⟨_, List.getElem?_eq_getElem hlt⟩
      have k1 := hc1 k x hx1
      have hxl := Hxl.out x (List.mem_of_getElem? hx1)
      have hSl : S.size ≤ 2040 := by
        have := cat_len hr.out.2
        rw [← hr.out.1, size_list, List.length_take] at this
        omega
      have Hx1 := Lib.hid hx1
      clear hc1 hx1
      go_wp2
      go_loop [27] (fun jv => ∃ j : Nat, j ≤ x.length ∧ jv = .int .i64 j ∧ Hid (∀ c ∈ x.take j, c ≠ 13)) (fun jv => x.length - (intOf jv).toNat)
      case atStart => exact ⟨0, Nat.zero_le _, rfl, Lib.hid (by simp)⟩
      case round =>
        obtain ⟨j, hj, rfl, hno⟩ := hrel
        by_cases hjl : j < x.length
        · by_cases h13 : ((x[j]'hjl).toNat : Int) = 13
          · have hB : ((((⟨x.toArray⟩ : ByteArray)[j]'hjl).toNat : Int) == 13) = true := beq_iff_eq.2 h13
            clear h13
            go_wp2_with fail
            refine (awake_any m _ Hm.out).mono ?_
            rintro e w1 ⟨rfl, hb⟩
            go_wp2
            go_ret
            exact ⟨rfl, hb⟩
          · have hB : ((((⟨x.toArray⟩ : ByteArray)[j]'hjl).toNat : Int) == 13) = false := beq_eq_false_iff_ne.2 h13
            have hno2 := Lib.hid (show ∀ c ∈ x.take (j + 1), c ≠ 13 from fun c hc => by
              rw [take_snoc hjl, List.mem_append] at hc
              rcases hc with hc | hc
              · exact hno.out c hc
              · rw [List.mem_singleton.1 hc]; exact fun e => h13 (by rw [e]; rfl))
            clear h13
            go_wp2
            go_round
            case rel => exact ⟨j + 1, by omega, by go_num, hno2⟩
            case measure => first | (simp [intOf]; done) | (simp [intOf]; omega)
        · have h13 := Lib.hid (show ∀ c ∈ x, c ≠ 13 by have := hno.out; rw [List.take_of_length_le (by omega)] at this; exact this)
          rcases hlit : litP x with _ | ⟨n, a⟩
          · have Hlit := Lib.hid (show rlitR (⟨x.toArray⟩ : ByteArray).data.toList = (-1, 0) from rlitR_none hlit)
            by_cases hx100 : 100 < x.length
            · clear hlit
              go_wp2_with fail
              refine (rliteral_any ⟨x.toArray⟩ _ (by show x.length ≤ _; omega)).mono ?_
              rintro e w1 ⟨rfl, rfl⟩
              rw [Hlit.out]
              go_wp2_with fail
              refine (awake_any m _ Hm.out).mono ?_
              rintro e w1 ⟨rfl, hb⟩
              go_wp2
              go_ret
              exact ⟨rfl, hb⟩
            have hpl := Lib.hid (show plainLine x from ⟨h13.out, by omega, hlit⟩)
            clear hlit
            go_wp2_with fail
            refine (rliteral_any ⟨x.toArray⟩ _ (by show x.length ≤ _; omega)).mono ?_
            rintro e w1 ⟨rfl, rfl⟩
            rw [Hlit.out]
            go_wp2
            go_round
            case rel =>
              refine ⟨k + 1, _, by omega, by go_num, rfl, Lib.hid ⟨?_, ?_⟩⟩
              · have he := (List.getElem?_eq_some_iff.1 Hx1.out).2
                rw [List.take_succ_eq_append_getElem hlt, he, cat_snoc, ← hr.out.1]
                simp
              · intro y hy
                have he := (List.getElem?_eq_some_iff.1 Hx1.out).2
                rw [List.take_succ_eq_append_getElem hlt, he, List.mem_append] at hy
                rcases hy with hy | hy
                · exact hr.out.2 y hy
                · rw [List.mem_singleton.1 hy]; exact hpl.out
            case measure => first | (simp [intOf]; done) | (simp [intOf]; omega)
          · have Hlit := Lib.hid (show rlitR (⟨x.toArray⟩ : ByteArray).data.toList = (n, (a : Int)) from rlitR_some hlit)
            have hn := numP_lit hlit
            clear hlit
            go_wp2_with fail
            refine (rliteral_any ⟨x.toArray⟩ _ (by show x.length ≤ _; omega)).mono ?_
            rintro e w1 ⟨rfl, rfl⟩
            rw [Hlit.out]
            go_wp2_with fail
            refine (awake_any m _ Hm.out).mono ?_
            rintro e w1 ⟨rfl, hb⟩
            go_wp2
            go_ret
            exact ⟨rfl, hb⟩
    · have hall := Lib.hid (show S.data.toList = cat xs ∧ ∀ x ∈ xs, plainLine x by have := hr.out; rw [List.take_of_length_le (by omega)] at this; exact this)
      clear hr
      go_wp2
      go_loopw [3, 56] (fun sv iv wr => ∃ (k : Nat) (S : ByteArray), k ≤ xs.length ∧ iv = .int .i64 k ∧ sv = .string S ∧ Hid (S.data.toList = cat (xs.drop k)) ∧ Hid (Below w.heap.size w wr)) (fun _ iv _ => xs.length - (intOf iv).toNat)
      case atStart => exact ⟨0, S, Nat.zero_le _, rfl, rfl, Lib.hid hall.out.1, Lib.hid (Below.refl _ _)⟩
      case round =>
        clear hk hlt
        obtain ⟨k, S, hk, rfl, rfl, hS, hb⟩ := hrel
        by_cases hlt : k < xs.length
        · obtain ⟨b, off, rfl, hbb, hc1⟩ := Hc.out (by omega)
          obtain ⟨x, hx1⟩ : ∃ x, xs[k]? = some x := ⟨_, List.getElem?_eq_getElem hlt⟩
          have k1 : wr.cell? ⟨b, off + k, none⟩ = some (strV x) := (hb.out.cell hbb).trans (hc1 k x hx1)
          have hd : xs.drop k = x :: xs.drop (k + 1) := by
            rw [List.drop_eq_getElem_cons hlt, (List.getElem?_eq_some_iff.1 hx1).2]
          have hpx := hall.out.2 x (List.mem_of_getElem? hx1)
          have htk := take_cat (r := xs.drop (k + 1)) hpx
          rw [← hd, ← hS.out] at htk
          have hSz : S.size = x.length + (2 + (cat (xs.drop (k + 1))).length) := by
            rw [← size_list, hS.out, hd]; simp [cat]; omega
          have hS1 : (cat (xs.drop (k + 1))).length < S.size := by omega
          have hS2 : S.size < 4294967281 := by
            have h1 := hpx.2.1
            have h2 := cat_len (xs := xs.drop (k + 1)) (fun y hy => hall.out.2 y (List.mem_of_mem_drop hy))
            rw [List.length_drop] at h2
            omega
          have Htk := Lib.hid htk
          generalize hr : cat (xs.drop (k + 1)) = rest at *
          have Hr := Lib.hid hr
          clear hc1 hx1 hd hpx htk hSz hr
          have hbz := hb.out.size
          go_wp2_with fail
          refine (take_any S m _ hS2 ((hb.out.cell hw0).trans Hm.out)).mono ?_
          rw [Htk.out]
          rintro e w1 ⟨tv, lv, rfl, h1, h2, hb1⟩
          obtain ⟨A1, c1, e1, hc1, hx1⟩ := h1.rd
          obtain ⟨A2, c2, e2, hc2, _⟩ := h2.rd
          subst e1 e2
          obtain ⟨b1, off1, rfl, hbb1, hx1⟩ := hx1 (by simp)
          have k2 : ∀ o, (w1.alloc o).cell? ⟨b1, off1, none⟩ = some (strV x) := fun o => (World.cell?_alloc_lt w1 o _ hbb1).trans (hx1 0 _ rfl)
          clear hx1
          have hB := Lib.hid ((hb.out.trans (hb1.mono hbz)).alloc (Nat.le_trans hbz hb1.size) (.cells #[.slice (some ⟨b1, off1, none⟩) 1 c1, .slice A2 0 c2] 32))
          go_wp2
          go_roundw
          case rel => exact ⟨k + 1, _, by omega, by go_num, rfl, Lib.hid Hr.out.symm, hB⟩
          case measure => first | (simp [intOf]; done) | (simp [intOf]; omega)
        · have hS0 : S = ⟨#[]⟩ := by
            have := hS.out
            rw [List.drop_of_length_le (by omega)] at this
            obtain ⟨⟨l⟩⟩ := S
            simp [cat] at this
            subst this
            rfl
          subst hS0
          go_wp2_with fail
          refine (awake_any m _ ((hb.out.cell hw0).trans Hm.out)).mono ?_
          rintro e w1 ⟨rfl, hb1⟩
          go_wp2
          go_ret
          exact ⟨rfl, hb.out.trans (hb1.mono hb.out.size)⟩
end Go.Proofs.Ytmjmabpcpicemaa.LN
