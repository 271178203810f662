/- What verb.Tokens returns. Conditions: lengths; the command's rows read as these texts. -/
/- The fixed answer of layer 21 is true. No conditions. -/
import Derived.Test.YtomnljigoljldaaGreatDoorVerbScan

namespace Mailsack
theorem scanF_depth : ∀ (f : Nat) (l : Bs) (T : List Tok) (d : Nat) (T' : List Tok) (d' : Nat), scanF f l T d = some (T', d') → d' ≤ d + l.length := by
  intro f
  induction f with
  | zero =>
    intro l T d T' d' h
    cases l with
    | nil => simp [scanF] at h; omega
    | cons c r => simp [scanF] at h
  | succ f ih =>
    intro l T d T' d' h
    cases l with
    | nil => simp [scanF] at h; omega
    | cons c r =>
      unfold scanF at h
      simp only [List.length_cons]
      split at h
      · have := ih _ _ _ _ _ h; omega
      split at h
      · have := ih _ _ _ _ _ h; omega
      split at h
      · split at h
        · cases h
        · have := ih _ _ _ _ _ h; omega
      split at h
      · split at h
        · cases h
        · have := ih _ _ _ _ _ h
          rw [List.length_drop] at this
          omega
      · have := ih _ _ _ _ _ h
        rw [List.length_drop, List.length_cons] at this
        omega
/-- what is made of the end -/
def finP : Option (List Tok × Nat) → Option (List Tok)
  | none => none
  | some (T, d) => if d = 0 ∧ T.length ≤ 40 then some T else none
theorem fin_none {R : Option (List Tok × Nat)} (h : none = R) : finP R = none := by rw [← h]; rfl
theorem tokens_fin {X L : List Bs} (h : X.length = L.length + 1) : tokensP X L = finP (tokRun L 0 X [] 0) := by
  unfold tokensP finP
  rw [if_pos h]
  cases tokRun L 0 X [] 0 <;> rfl
end Mailsack
namespace Go.Proofs.YtomnljigoljldaaGreatDoor.VB
open Go.RowKit Mailsack MM BU

def TokPost (w : World) (R : Option (List Tok)) (e : Ending) (w' : World) : Prop :=
  match R with
  | none => e = .returned (.tuple #[.slice none 0 0, .int .i64 3]) ∧ Below w.heap.size w w'
  | some T => ∃ v, e = .returned (.tuple #[v, .int .i64 0]) ∧ OwnT w' w.heap.size v T ∧ Below w.heap.size w w'
theorem OwnT.less {w : World} {B B' : Nat} {v : Value} {T : List Tok} (h : OwnT w B v T) (hb : B' ≤ B) : OwnT w B' v T := by
  refine ⟨h.1, ?_⟩
  rcases h.2 with hn | ⟨g, cap, cur, h1, h2, h3⟩
  · exact .inl hn
  · exact .inr ⟨g, cap, cur, h1, by omega, h3⟩

set_option maxHeartbeats 8000000 in
set_option maxRecDepth 100000 in
theorem tokens_any (xv lv : Value) (X L : List Bs) (w : World) (hx : RdS w w.heap.size xv X) (hl : RdS w w.heap.size lv L) (hX : ∀ x ∈ X, x.length ≤ 1000000) (hn : X.length ≤ 1000) (hn2 : L.length ≤ 1000) :
    Calls Tryz.prog 71 #[.agg #[xv, lv]] w (TokPost w (tokensP X L)) := by
  have HX := Lib.hid hX
  obtain ⟨Ax, cx, rfl, hcx, hxc⟩ := hx
  obtain ⟨Al, cl, rfl, hcl, hlc⟩ := hl
  have Hxc := Lib.hid hxc
  have Hlc := Lib.hid hlc
  clear hX hxc hlc
  have pa := Lib.hid (blk_new w (.cells #[.slice Ax X.length cx, .slice Al L.length cl] 100))
  have ka : (w.alloc (.cells #[.slice Ax X.length cx, .slice Al L.length cl] 100)).cell? ⟨w.heap.size, 0, none⟩ = some (.slice Ax X.length cx) := cell_blk pa.out 0
  have kb : (w.alloc (.cells #[.slice Ax X.length cx, .slice Al L.length cl] 100)).cell? ⟨w.heap.size, 1, none⟩ = some (.slice Al L.length cl) := cell_blk pa.out 1
  by_cases hne : X.length = L.length + 1
  · rw [tokens_fin hne]
    generalize hR0 : tokRun L 0 X [] 0 = R
    have h0 : Hid (tokRun L 0 (X.drop 0) [] 0 = R) := Lib.hid hR0
    have c0 : ((X.length : Int) != (L.length : Int) + 1) = false := by simp; omega
    have HN := Lib.hid hne
    clear hR0 hne
    have H2 := Lib.hid (((Below.refl w.heap.size w).alloc (Nat.le_refl _) (.cells #[.slice Ax X.length cx, .slice Al L.length cl] 100)).alloc (by simp) (.cells #[.slice none 0 0, .int .i64 0] 226))
    have P1 := Lib.hid (two_old w (.cells #[.slice Ax X.length cx, .slice Al L.length cl] 100) (.cells #[.slice none 0 0, .int .i64 0] 226))
    have P2 := Lib.hid (two_new w (.cells #[.slice Ax X.length cx, .slice Al L.length cl] 100) (.cells #[.slice none 0 0, .int .i64 0] 226))
    have hz2 : w.heap.size + 1 ≤ ((w.alloc (.cells #[.slice Ax X.length cx, .slice Al L.length cl] 100)).alloc (.cells #[.slice none 0 0, .int .i64 0] 226)).heap.size := by simp
    have kx : ((w.alloc (.cells #[.slice Ax X.length cx, .slice Al L.length cl] 100)).alloc (.cells #[.slice none 0 0, .int .i64 0] 226)).cell? ⟨w.heap.size, 0, none⟩ = some (.slice Ax X.length cx) := cell_blk P1.out 0
    go_enter Tryz.func71, Tryz.ntmps71
    go_wp2
    generalize (w.alloc (.cells #[.slice Ax X.length cx, .slice Al L.length cl] 100)).alloc (.cells #[.slice none 0 0, .int .i64 0] 226) = w2 at H2 P1 P2 hz2 kx ⊢
    go_loopw [18] (fun iv wr => ∃ (k : Nat) (T : List Tok) (d : Nat), k ≤ X.length ∧ d ≤ 1000000 * k ∧ iv = .int .i64 k ∧ Hid (tokRun L k (X.drop k) T d = R) ∧ Hid (Scn (w.heap.size + 1) (w.heap.size + 1) T d wr ∧ Below (w.heap.size + 1) w2 wr)) (fun iv _ => X.length - (intOf iv).toNat)
    case atStart => exact ⟨0, [], 0, Nat.zero_le _, by omega, rfl, h0, Lib.hid ⟨⟨Nat.le_refl _, by decide, _, P2.out, World.ownsRow_nil _ _ _ _, by simp [Value.ownBlock]⟩, Below.refl _ _⟩⟩
    case round =>
      obtain ⟨k, T, d, hk, hd, rfl, HR0, hr⟩ := hrel
      have hR := HR0.out
      clear HR0 h0 ka kb kx
      by_cases hlt : k < X.length
      · obtain ⟨bx, ox, rfl, hbx, hcx2⟩ := Hxc.out (by omega)
        obtain ⟨x, hx⟩ : ∃ x, X[k]? = some x := ⟨_, List.getElem?_eq_getElem hlt⟩
        have hxs : (⟨x.toArray⟩ : ByteArray).size ≤ 1000000 := HX.out x (List.mem_of_getElem? hx)
        have hxs' : x.length ≤ 1000000 := hxs
        have q0 : wr.cell? ⟨bx, ox + k, none⟩ = some (strV x) := (hr.out.2.cell (by show bx < _; omega)).trans ((H2.out.cell hbx).trans (hcx2 k x hx))
        have hdr : X.drop k = x :: X.drop (k + 1) := by
          rw [List.drop_eq_getElem_cons hlt]
          rw [List.getElem?_eq_getElem hlt] at hx
          injection hx with hx
          rw [hx]
        rw [hdr] at hR
        unfold tokRun at hR
        clear hcx2 hx hdr
        by_cases hk0 : k = 0
        · subst hk0
          rw [if_neg (show ¬ (0 < 0) by omega)] at hR
          have q0' : wr.cell? ⟨bx, ox, none⟩ = some (strV x) := q0
          clear q0
          have E1 := printable_any ⟨x.toArray⟩
          rw [show (⟨x.toArray⟩ : ByteArray).data.toList = x from rfl] at E1
          cases hp : plainP x
          · rw [hp] at E1 hR
            have HE := Lib.hid E1
            rw [if_neg (show ¬ (false = true) by simp)] at hR
            have HR := Lib.hid (fin_none hR)
            clear E1 hp hR
            go_wp2_with fail
            refine (HE.out _ hxs).mono ?_
            rintro e w5 ⟨rfl, hw5⟩
            subst hw5
            go_wp2
            go_ret2
            rw [HR.out]
            exact ⟨rfl, H2.out.trans (hr.out.2.mono (Nat.le_trans (Nat.le_succ _) (Nat.le_refl _)))⟩
          · rw [hp] at E1 hR
            have HE := Lib.hid E1
            rw [if_pos (rfl : true = true)] at hR
            have HS := Lib.hid (fun W (h : Scn (w.heap.size + 1) (w.heap.size + 1) T d W) (hB : w.heap.size + 1 ≤ W.heap.size) => scan_any (w.heap.size + 1) (w.heap.size + 1) T d ⟨x.toArray⟩ W h hB hxs hp (by omega))
            rw [show (⟨x.toArray⟩ : ByteArray).data.toList = x from rfl, show (⟨x.toArray⟩ : ByteArray).size = x.length from rfl] at HS
            have hdp := fun T' d' => scanF_depth x.length x T d T' d'
            generalize scanF x.length x T d = S at hR HS hdp
            clear E1 hp
            cases S with
            | none =>
              simp only at hR
              have HR := Lib.hid (fin_none hR)
              clear hR hdp
              go_wp2_with fail
              refine (HE.out _ hxs).mono ?_
              rintro e w5 ⟨rfl, hw5⟩
              subst hw5
              go_wp2_with fail
              refine (HS.out _ hr.out.1 (Nat.le_trans hz2 hr.out.2.size)).mono ?_
              rintro e w6 ⟨rfl, hb6⟩
              go_wp2
              go_ret2
              rw [HR.out]
              exact ⟨rfl, H2.out.trans ((hr.out.2.trans hb6).mono (Nat.le_succ _))⟩
            | some td =>
              obtain ⟨T2, d2⟩ := td
              have hd2 := hdp T2 d2 rfl
              simp only at hR
              have HR := Lib.hid hR
              clear hR hdp
              go_wp2_with fail
              refine (HE.out _ hxs).mono ?_
              rintro e w5 ⟨rfl, hw5⟩
              subst hw5
              go_wp2_with fail
              refine (HS.out _ hr.out.1 (Nat.le_trans hz2 hr.out.2.size)).mono ?_
              rintro e w6 ⟨rfl, hs6, hb6⟩
              have h6 : Hid (Scn (w.heap.size + 1) (w.heap.size + 1) T2 d2 w6 ∧ Below (w.heap.size + 1) w2 w6) := Lib.hid ⟨hs6, hr.out.2.trans hb6⟩
              clear hs6 hb6
              go_wp2
              go_roundw
              case rel => exact ⟨0 + 1, T2, d2, by omega, by omega, by go_num, HR, h6⟩
              case measure => simp [intOf]; omega
        · obtain ⟨j, rfl⟩ : ∃ j, k = j + 1 := ⟨k - 1, by omega⟩
          clear hk0
          rw [if_pos (show 0 < j + 1 by omega), show j + 1 - 1 = j by omega] at hR
          have hjl : j < L.length := by have := HN.out; omega
          obtain ⟨bl, ol, rfl, hbl, hcl2⟩ := Hlc.out (by omega)
          have q1 : wr.cell? ⟨bl, ol + j, none⟩ = some (strV (L.getD j [])) := (hr.out.2.cell (by show bl < _; omega)).trans ((H2.out.cell hbl).trans (hcl2 j _ (by rw [List.getD_eq_getElem?_getD, List.getElem?_eq_getElem hjl]; rfl)))
          generalize L.getD j [] = y at q1 hR
          have kl : wr.cell? ⟨w.heap.size, 1, none⟩ = some (.slice (some ⟨bl, ol, none⟩) L.length cl) := (hr.out.2.cell (by simp)).trans (cell_blk P1.out 1)
          clear hcl2
          go_wp2_with fail
          refine (add_any (w.heap.size + 1) (w.heap.size + 1) T d 1 ⟨y.toArray⟩ _ hr.out.1 (Nat.le_trans hz2 hr.out.2.size)).mono ?_
          rintro e w4 ⟨rfl, hq4, hb4⟩
          have h4 : Hid (Scn (w.heap.size + 1) (w.heap.size + 1) (addP T (1, y)) d w4 ∧ Below (w.heap.size + 1) w2 w4) := Lib.hid ⟨hq4, hr.out.2.trans hb4⟩
          clear hq4 hb4
          have E1 := printable_any ⟨x.toArray⟩
          rw [show (⟨x.toArray⟩ : ByteArray).data.toList = x from rfl] at E1
          cases hp : plainP x
          · rw [hp] at E1 hR
            have HE := Lib.hid E1
            rw [if_neg (show ¬ (false = true) by simp)] at hR
            have HR := Lib.hid (fin_none hR)
            clear E1 hp hR
            go_wp2_with fail
            refine (HE.out _ hxs).mono ?_
            rintro e w5 ⟨rfl, hw5⟩
            subst hw5
            go_wp2
            go_ret2
            rw [HR.out]
            exact ⟨rfl, H2.out.trans (h4.out.2.mono (Nat.le_trans (Nat.le_succ _) (Nat.le_refl _)))⟩
          · rw [hp] at E1 hR
            have HE := Lib.hid E1
            rw [if_pos (rfl : true = true)] at hR
            have HS := Lib.hid (fun W (h : Scn (w.heap.size + 1) (w.heap.size + 1) (addP T (1, y)) d W) (hB : w.heap.size + 1 ≤ W.heap.size) => scan_any (w.heap.size + 1) (w.heap.size + 1) (addP T (1, y)) d ⟨x.toArray⟩ W h hB hxs hp (by omega))
            rw [show (⟨x.toArray⟩ : ByteArray).data.toList = x from rfl, show (⟨x.toArray⟩ : ByteArray).size = x.length from rfl] at HS
            have hdp := fun T' d' => scanF_depth x.length x (addP T (1, y)) d T' d'
            generalize scanF x.length x (addP T (1, y)) d = S at hR HS hdp
            clear E1 hp
            cases S with
            | none =>
              simp only at hR
              have HR := Lib.hid (fin_none hR)
              clear hR hdp
              go_wp2_with fail
              refine (HE.out _ hxs).mono ?_
              rintro e w5 ⟨rfl, hw5⟩
              subst hw5
              go_wp2_with fail
              refine (HS.out _ h4.out.1 (Nat.le_trans hz2 h4.out.2.size)).mono ?_
              rintro e w6 ⟨rfl, hb6⟩
              go_wp2
              go_ret2
              rw [HR.out]
              exact ⟨rfl, H2.out.trans ((h4.out.2.trans hb6).mono (Nat.le_succ _))⟩
            | some td =>
              obtain ⟨T2, d2⟩ := td
              have hd2 := hdp T2 d2 rfl
              simp only at hR
              have HR := Lib.hid hR
              clear hR hdp
              go_wp2_with fail
              refine (HE.out _ hxs).mono ?_
              rintro e w5 ⟨rfl, hw5⟩
              subst hw5
              go_wp2_with fail
              refine (HS.out _ h4.out.1 (Nat.le_trans hz2 h4.out.2.size)).mono ?_
              rintro e w6 ⟨rfl, hs6, hb6⟩
              have h6 : Hid (Scn (w.heap.size + 1) (w.heap.size + 1) T2 d2 w6 ∧ Below (w.heap.size + 1) w2 w6) := Lib.hid ⟨hs6, h4.out.2.trans hb6⟩
              clear hs6 hb6
              go_wp2
              go_roundw
              case rel => exact ⟨j + 1 + 1, T2, d2, by omega, by omega, by go_num, HR, h6⟩
              case measure => simp [intOf]; omega
      · have hks : X.length ≤ k := by omega
        rw [List.drop_eq_nil_iff.2 hks] at hR
        have hR' : some (T, d) = R := by rw [← hR]; rfl
        obtain ⟨_, hT, v, hbk, hown, hvne⟩ := hr.out.1
        obtain ⟨A9, c9, e9⟩ : ∃ A cp, v = .slice A T.length cp := by
          rcases hown.2 with ⟨h1, h2⟩ | ⟨g, cap, cur, h1, _⟩
          · exact ⟨none, 0, by rw [h1, h2]⟩
          · exact ⟨_, _, h1⟩
        subst e9
        have s0 : wr.cell? ⟨w.heap.size + 1, 0, none⟩ = some (.slice A9 T.length c9) := cell_blk hbk 0
        have s1 : wr.cell? ⟨w.heap.size + 1, 1, none⟩ = some (.int .i64 d) := cell_blk hbk 1
        have Hown := Lib.hid hown
        have hfin : finP R = if d = 0 ∧ T.length ≤ 40 then some T else none := by rw [← hR']; rfl
        clear hR hR' hown hbk hvne
        by_cases hd0 : d = 0
        · subst hd0
          have z0 : (((0 : Nat) : Int) != 0) = false := rfl
          by_cases h40 : T.length ≤ 40
          · rw [if_pos ⟨rfl, h40⟩] at hfin
            have HF := Lib.hid hfin
            clear hfin
            go_wp2
            go_ret2
            rw [HF.out]
            exact ⟨_, rfl, OwnT.less Hown.out (Nat.le_succ _), H2.out.trans (hr.out.2.mono (Nat.le_succ _))⟩
          · rw [if_neg (by omega)] at hfin
            have HR := Lib.hid hfin
            clear hfin
            go_wp2
            go_ret2
            rw [HR.out]
            exact ⟨rfl, H2.out.trans (hr.out.2.mono (Nat.le_succ _))⟩
        · rw [if_neg (by omega)] at hfin
          have z0 : ((d : Int) != 0) = true := by simp; omega
          have HR := Lib.hid hfin
          clear hfin
          go_wp2
          go_ret2
          rw [HR.out]
          exact ⟨rfl, H2.out.trans (hr.out.2.mono (Nat.le_succ _))⟩
  · have hR : tokensP X L = none := by unfold tokensP; rw [if_neg hne]
    rw [hR]
    have c0 : ((X.length : Int) != (L.length : Int) + 1) = true := by simp; omega
    clear hR
    go_enter Tryz.func71, Tryz.ntmps71
    go_wp2
    go_ret2
    exact ⟨rfl, (Below.refl _ _).alloc (Nat.le_refl _) _⟩
end Go.Proofs.YtomnljigoljldaaGreatDoor.VB


namespace Go.Proofs.YtomnljigoljldaaGreatDoor.VB
open Go.RowKit Mailsack MM BU

def awT : Bs := [97, 32, 76, 79, 71, 73, 78, 32, 34, 120, 32, 121, 34, 32, 40, 122, 41]
def awToks : List Tok := [(0, [97]), (0, [76, 79, 71, 73, 78]), (1, [120, 32, 121]), (2, []), (0, [122]), (3, [])]
theorem aw_tokens : tokensP [awT] [] = some awToks := by decide
theorem rds_one (w : World) (x : Bs) (t : TypeId) : RdS (w.alloc (.cells #[strV x] t)) (w.alloc (.cells #[strV x] t)).heap.size (.slice (some ⟨w.heap.size, 0, none⟩) 1 1) [x] := by
  refine ⟨_, _, rfl, Nat.le_refl _, fun _ => ⟨w.heap.size, 0, rfl, by simp, fun j y hy => ?_⟩⟩
  have hj : j = 0 := by
    have := (List.getElem?_eq_some_iff.1 hy).1
    simpa using this
  subst hj
  injection hy with hy
  subst hy
  exact cell_blk (blk_new w _) 0
theorem rds_none (w : World) (B : Nat) : RdS w B (.slice none 0 0) [] := ⟨none, 0, rfl, Nat.le_refl _, fun h => absurd h (Nat.lt_irrefl _)⟩
theorem own_cell {w : World} {B : Nat} {v : Value} {T : List Tok} (h : OwnT w B v T) (hT : 0 < T.length) : ∃ g cap, v = .slice (some ⟨g, 0, none⟩) T.length cap ∧ T.length ≤ cap ∧ g < w.heap.size ∧ ∀ j u, (tokCells T)[j]? = some u → w.cell? ⟨g, j, none⟩ = some u := by
  rcases h.2 with ⟨_, h2⟩ | ⟨g, cap, cur, h1, hb, h3, hc, _⟩
  · omega
  · refine ⟨g, cap, h1, hc, blk_lt h3, fun j u hu => ?_⟩
    have := World.ownsRow.cells h (g := g) (by rw [h1]; rfl) j u hu
    have hadd : (⟨g, 0, none⟩ : Addr).add j = ⟨g, j, none⟩ := by unfold Addr.add; split <;> simp_all
    rwa [hadd] at this
theorem aw_quote : quoteP [120, 32, 121] = [34, 120, 32, 121, 34] := by decide
theorem aw_upper : upP [97, 49] = [65, 49] := by decide

end Go.Proofs.YtomnljigoljldaaGreatDoor.VB
