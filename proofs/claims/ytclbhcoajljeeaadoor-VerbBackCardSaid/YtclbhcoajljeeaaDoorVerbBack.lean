/- The law VerbBack returns true. Conditions: that the library's table of powers lies as its text lays it, and that the cell of MaxLen holds some int. -/
import Derived.Test.YtclbhcoajljeeaaDoorVerbLaws
import Derived.Test.YtclbhcoajljeeaaDoorVerbBackPlain
import Derived.Test.YtclbhcoajljeeaaDoorLitBig
import Derived.Test.YtclbhcoajljeeaaDoorLTake
namespace Go.Proofs.YtclbhcoajljeeaaDoor.VB
open Go.RowKit Mailsack MM BU LN

theorem quote_len {s : Bs} (h : s.length ≤ 250) : (quoteP s).length ≤ 600 := by
  unfold quoteP
  split
  · have := (dec_len (n := s.length) (by omega)).2
    simp; omega
  · split
    · omega
    · have := escP_len s
      simp; omega

set_option maxHeartbeats 2000000 in
set_option maxRecDepth 100000 in
theorem back_any (s : ByteArray) (m : Int) (w : World) (htab : Tab w) (hs : s.size ≤ 9223372036854775807) (hm : w.cell? ⟨0, 0, none⟩ = some (.int .i64 m)) :
    Calls Tryd.prog 5 #[.string s] w fun e w' => e = .returned (.bool true) ∧ Below w.heap.size w w' := by
  by_cases h250 : 250 < s.size
  · clear htab hm
    go_enter Tryd.func5, Tryd.ntmps5
    go_wp2_with fail
    refine (literal_some s _ hs).mono ?_
    rintro e w1 ⟨t, n, b, rfl, rfl⟩
    cases b
    all_goals
      go_wp2_with fail
      refine (awake_any _).mono ?_
      rintro e w2 ⟨rfl, hb2⟩
      go_wp2
      go_ret
      exact ⟨rfl, hb2⟩
  · cases hlit : litP s.data.toList with
    | some na =>
      obtain ⟨n, a⟩ := na
      have Hl := Lib.hid (litR_some hlit)
      clear htab hm hlit
      go_enter Tryd.func5, Tryd.ntmps5
      go_wp2_with fail
      refine (literal_any s _ (by omega)).mono ?_
      rintro e w1 ⟨rfl, rfl⟩
      rw [Hl.out]
      go_wp2_with fail
      refine (awake_any _).mono ?_
      rintro e w2 ⟨rfl, hb2⟩
      go_wp2
      go_ret
      exact ⟨rfl, hb2⟩
    | none =>
      have Hl := Lib.hid (litR_none hlit)
      have hbk := back_plain hlit (by rw [size_list]; omega)
      have hql := quote_len (s := s.data.toList) (by rw [size_list]; omega)
      have HQ := Lib.hid (quote_any s w (by omega) (fun _ => htab))
      have Hm := Lib.hid hm
      have hw0 : 0 < w.heap.size := World.block_lt_of_cell? w _ hm
      generalize quoteP s.data.toList = q at hbk hql HQ
      obtain ⟨c, hc⟩ : ∃ c : ByteArray, (⟨q.toArray⟩ : ByteArray) ++ ⟨#[13, 10]⟩ = c := ⟨_, rfl⟩
      have hc2 : c = ⟨(q ++ [13, 10]).toArray⟩ := by rw [← hc]; exact bytes_app q [13, 10]
      have hcl : c.data.toList = q ++ [13, 10] := by rw [hc2]
      have hcs : c.size ≤ 602 := by rw [hc2]; show (q ++ [13, 10]).length ≤ 602; simp; omega
      have hqs : (⟨q.toArray⟩ : ByteArray).size ≤ 600 := hql
      rw [← hcl] at hbk
      have HT := Lib.hid (fun W hW => take_any c m W (by omega) hW)
      have hfew := takeP_len c.data.toList
      generalize takeP c.data.toList = R at hbk HT hfew
      obtain ⟨texts, lits, rest, state, num⟩ := R
      obtain ⟨hst, hre, hsh, k, hk, htok⟩ := hbk
      simp only at hst hre hsh htok hfew
      obtain ⟨hf1, hf2⟩ := hfew
      subst hst hre
      have Hk := Lib.hid htok
      have Hsh := Lib.hid hsh
      have Hc := Lib.hid hc
      have hbig : ¬ 9223372036854775807 < List.length q + 2 := by omega
      have e1 : (s.toList == s.toList) = true := beq_self_eq_true _
      clear hlit htab hm hc hc2 hcl hcs hql htok hsh
      go_enter Tryd.func5, Tryd.ntmps5
      go_wp2_with fail
      refine (literal_any s _ (by omega)).mono ?_
      rintro e w1 ⟨rfl, rfl⟩
      rw [Hl.out]
      go_wp2_with fail
      refine HQ.out.mono ?_
      rintro e w2 ⟨rfl, hb2⟩
      have hm2 := Lib.hid ((hb2.cell hw0).trans Hm.out)
      have HB2 := Lib.hid hb2
      clear hb2
      go_wp2_with fail
      rw [Hc.out]
      refine (HT.out _ hm2.out).mono ?_
      rintro e w3 ⟨tv, lv, rfl, ho1, ho2, hb3⟩
      obtain ⟨A, ca, e8, hca, _⟩ := ho1.rd
      obtain ⟨A', ca', e9, hca', _⟩ := ho2.rd
      subst e8 e9
      have HB3 := Lib.hid ((HB2.out.trans (hb3.mono HB2.out.size)).alloc (HB2.out.trans (hb3.mono HB2.out.size)).size (.cells #[.slice A texts.length ca, .slice A' lits.length ca'] 29))
      have HX := Lib.hid (ho1.alloc (.cells #[.slice A texts.length ca, .slice A' lits.length ca'] 29))
      have HL := Lib.hid (ho2.alloc (.cells #[.slice A texts.length ca, .slice A' lits.length ca'] 29))
      clear hb3 ho1 ho2
      go_wp2_with fail
      refine (tokens_any _ _ texts lits _ HX.out.rd HL.out.rd Hsh.out (by omega) (by omega)).mono ?_
      rw [Hk.out]
      rintro e w4 ⟨v, rfl, hown, hb4⟩
      obtain ⟨g, cap, rfl, hcap, hg, hcell⟩ := own_cell hown (by simp)
      have k0 : w4.cell? ⟨g, 0, none⟩ = some (.int .i64 k) := hcell 0 _ rfl
      have k1 : w4.cell? ⟨g, 1, none⟩ = some (.string s) := hcell 1 _ rfl
      have HB4 := Lib.hid (HB3.out.trans (hb4.mono (by exact HB3.out.size)))
      rw [show ([(k, s.data.toList)] : List Tok).length = 1 from rfl] at hcap ⊢
      clear hown hcell hb4
      go_wp2_with fail
      refine (awake_any _).mono ?_
      rintro e w6 ⟨rfl, hb6⟩
      go_wp2
      go_ret
      exact ⟨rfl, HB4.out.trans (hb6.mono HB4.out.size)⟩
end Go.Proofs.YtclbhcoajljeeaaDoor.VB
