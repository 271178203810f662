/- The laws VerbQuotes and VerbUpper: they return true. Conditions: that the library's table of powers lies as its text lays it. -/
import Derived.Test.YtclbhcoajljeeaaDoorVerbAwake
namespace Go.Proofs.YtclbhcoajljeeaaDoor.VB
open Go.RowKit Mailsack MM BU

set_option maxHeartbeats 400000 in
set_option maxRecDepth 100000 in
theorem quotes_any (s : ByteArray) (w : World) (htab : Tab w) (hs : s.size ≤ 9223372036854775807) :
    Calls Tryd.prog 3 #[.string s] w fun e w' => e = .returned (.bool true) ∧ Below w.heap.size w w' := by
  by_cases h800 : 800 < s.size
  · clear htab
    go_enter Tryd.func3, Tryd.ntmps3
    go_wp2_with fail
    refine (awake_any _).mono ?_
    rintro e w2 ⟨rfl, hb2⟩
    go_wp2
    go_ret
    exact ⟨rfl, hb2⟩
  · have E1 := Lib.hid (quote_any s w (by omega) (fun _ => htab))
    have E2 := Lib.hid (fun W => rquote_any s W (by omega))
    have E3 := Lib.hid (fun W => upper_any s W (by omega))
    have E4 := Lib.hid (fun W => rupper_any s W (by omega))
    generalize hq : (⟨(quoteP s.data.toList).toArray⟩ : ByteArray) = q at E1 E2
    generalize hu : (⟨(upP s.data.toList).toArray⟩ : ByteArray) = u at E3 E4
    have e1 : (q.toList == q.toList) = true := beq_self_eq_true _
    have e2 : (u.toList == u.toList) = true := beq_self_eq_true _
    clear htab hq hu
    go_enter Tryd.func3, Tryd.ntmps3
    go_wp2_with fail
    refine E1.out.mono ?_
    rintro e w2 ⟨rfl, hb2⟩
    have HB2 := Lib.hid hb2
    clear hb2
    go_wp2_with fail
    refine (E2.out _).mono ?_
    rintro e w3 ⟨rfl, hb3⟩
    have HB3 := Lib.hid (HB2.out.trans (hb3.mono HB2.out.size))
    clear hb3
    go_wp2_with fail
    refine (E3.out _).mono ?_
    rintro e w4 ⟨rfl, hb4⟩
    have HB4 := Lib.hid (HB3.out.trans (hb4.mono HB3.out.size))
    clear hb4
    go_wp2_with fail
    refine (E4.out _).mono ?_
    rintro e w5 ⟨rfl, hb5⟩
    have HB5 := Lib.hid (HB4.out.trans (hb5.mono HB4.out.size))
    clear hb5
    go_wp2_with fail
    refine (awake_any _).mono ?_
    rintro e w6 ⟨rfl, hb6⟩
    go_wp2
    go_ret
    exact ⟨rfl, HB5.out.trans (hb6.mono HB5.out.size)⟩

end Go.Proofs.YtclbhcoajljeeaaDoor.VB
