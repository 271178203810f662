/- What index.rightBox and index.Right return, as a function of the index as plain data. Conditions: the index reads as that data; lengths. -/
import Derived.Test.YtiapdhllphcnnaaGreatDoorIndexRight
import Derived.Test.YtiapdhllphcnnaaGreatDoorRegL
import Derived.Deep.RegionWith
namespace Go.Proofs.YtiapdhllphcnnaaGreatDoor.IX
open Go.RowKit Mailsack MM

theorem mailsP_step {L : List MailP} {k : Nat} {m : MailP} (h : L[k]? = some m) (next last : Int) : mailsP next (L.drop k) last = (decide (last < m.uid) && decide (m.uid < next) && mailOkP m.object m.size m.flags && mailsP next (L.drop (k + 1)) m.uid) := by
  have hk : k < L.length := (List.getElem?_eq_some_iff.1 h).1
  rw [List.drop_eq_getElem_cons hk]
  have : L[k] = m := (List.getElem?_eq_some_iff.1 h).2
  rw [this]
  rfl
theorem bel_alloc {B : Nat} {a w : World} (h : Below B a w) (hB : B ≤ a.heap.size) (o : Obj) : Below B a (w.alloc o) := h.alloc (Nat.le_trans hB h.size) o

set_option maxHeartbeats 2000000 in
set_option maxRecDepth 100000 in
theorem rightBox_any (b : BoxP) (mv : Value) (w : World) (hm : RdMails w w.heap.size mv b.mails) (hl : b.mails.length ≤ 9223372036854775807) :
    Calls Tryz.prog 27 #[.agg #[strV b.name, .int .i64 b.validity, .int .i64 b.next, mv]] w fun e w' => e = .returned (.bool (boxOkP b)) ∧ Below w.heap.size w w' := by
  obtain ⟨A, c, rfl, hc, hrd⟩ := hm
  have HN := Lib.hid (fun W => rightName_any ⟨b.name.toArray⟩ W)
  have HV := Lib.hid (fun W => positive_any b.validity W)
  have HX := Lib.hid (fun W => positive_any b.next W)
  rw [show (⟨b.name.toArray⟩ : ByteArray).data.toList = b.name from rfl] at HN
  have HR : Hid (boxOkP b = (nameP b.name && posP b.validity && posP b.next && decide (b.mails.length ≤ 30) && mailsP b.next (b.mails.drop 0) 0)) := Lib.hid rfl
  generalize boxOkP b = R at HR ⊢
  generalize nameP b.name = r1 at HN HR
  generalize posP b.validity = r2 at HV HR
  generalize posP b.next = r3 at HX HR
  have H1 := Lib.hid ((Below.refl w.heap.size w).alloc (Nat.le_refl _) (.cells #[strV b.name, .int .i64 b.validity, .int .i64 b.next, .slice A b.mails.length c] 70))
  have P1 := Lib.hid (blk_new w (.cells #[strV b.name, .int .i64 b.validity, .int .i64 b.next, .slice A b.mails.length c] 70))
  have Hrd := Lib.hid hrd
  clear hrd
  by_cases hok : (r1 = true ∧ r2 = true ∧ r3 = true) ∧ b.mails.length ≤ 30
  · obtain ⟨⟨rfl, rfl, rfl⟩, h30⟩ := hok
    replace HR : Hid (R = mailsP b.next (b.mails.drop 0) 0) := Lib.hid (by rw [HR.out]; simp [h30])
    go_enter Tryz.func27, Tryz.ntmps27
    go_wp2_with (first | (go_at_call 28; refine (HN.out _).mono ?_; rintro e w' ⟨rfl, rfl⟩) | (go_at_call_of 26 (Value.int IntKind.i64 b.validity); refine (HV.out _).mono ?_; rintro e w' ⟨rfl, rfl⟩) | (go_at_call_of 26 (Value.int IntKind.i64 b.next); refine (HX.out _).mono ?_; rintro e w' ⟨rfl, rfl⟩))
    go_loopw [3, 31] (fun lv iv wr => ∃ (k : Nat) (last : Int), k ≤ b.mails.length ∧ lv = .int .i64 last ∧ iv = .int .i64 k ∧ Hid (R = mailsP b.next (b.mails.drop k) last) ∧ Hid (Below (w.alloc (.cells #[strV b.name, .int .i64 b.validity, .int .i64 b.next, .slice A b.mails.length c] 70)).heap.size (w.alloc (.cells #[strV b.name, .int .i64 b.validity, .int .i64 b.next, .slice A b.mails.length c] 70)) wr)) (fun _ iv _ => b.mails.length - (intOf iv).toNat)
    case atStart => exact ⟨0, 0, Nat.zero_le _, rfl, rfl, HR, Lib.hid (Below.refl _ _)⟩
    case round =>
      obtain ⟨k, last, hk, rfl, rfl, hR, hb⟩ := hrel
      clear HR
      by_cases hlt : k < b.mails.length
      · obtain ⟨g, off, rfl, hg, hcell⟩ := Hrd.out (by omega)
        obtain ⟨m, hm⟩ : ∃ m, b.mails[k]? = some m := ⟨_, List.getElem?_eq_getElem hlt⟩
        obtain ⟨q1, q2, q3, q4⟩ := hcell k m hm
        have kp : ∀ p : Addr, p.block < w.heap.size → wr.cell? p = w.cell? p := fun p hp => (hb.out.cell (by simp; omega)).trans (H1.out.cell hp)
        have c1 := (kp ⟨g, off + k * 4, none⟩ hg).trans q1
        have c2 := (kp ⟨g, off + k * 4 + 1, none⟩ hg).trans q2
        have c3 := (kp ⟨g, off + k * 4 + 2, none⟩ hg).trans q3
        have c4 := (kp ⟨g, off + k * 4 + 3, none⟩ hg).trans q4
        have c5 : wr.cell? ⟨w.heap.size, 2, none⟩ = some (.int .i64 b.next) := cell_blk (blk_below P1.out hb.out (by simp)) 2
        have c6 : (wr.alloc (.cells #[.int .i64 m.uid, .int .i64 m.flags, .int .i64 m.object, .int .i64 m.size] 94)).cell? ⟨w.heap.size, 2, none⟩ = some (.int .i64 b.next) := cell_blk (blk_alloc (blk_below P1.out hb.out (by simp)) _) 2
        have hsz : w.heap.size + 1 ≤ wr.heap.size := by have := hb.out.size; simpa using this
        have HS := Lib.hid (hR.out.trans (mailsP_step hm b.next last))
        have HM := Lib.hid (fun W => rightMail_any m.object m.size m.flags W)
        generalize mailOkP m.object m.size m.flags = r at HM HS
        clear q1 q2 q3 q4 kp hcell hm hR
        have HB9 := Lib.hid (bel_alloc hb.out (Nat.le_refl _) (.cells #[.int .i64 m.uid, .int .i64 m.flags, .int .i64 m.object, .int .i64 m.size] 94))
        by_cases u1 : last < m.uid
        · by_cases u2 : m.uid < b.next
          · cases r with
            | true =>
              have HT : Hid (R = mailsP b.next (b.mails.drop (k + 1)) m.uid) := Lib.hid (by rw [HS.out]; simp [u1, u2])
              go_wp2_with (go_at_call 36; refine (HM.out _).mono ?_; rintro e w' ⟨rfl, rfl⟩)
              exact ⟨⟨k + 1, m.uid, by omega, rfl, by go_num, HT, HB9⟩, by simp [intOf]; omega⟩
            | false =>
              have HF : Hid (R = false) := Lib.hid (by rw [HS.out]; simp)
              go_wp2_with (go_at_call 36; refine (HM.out _).mono ?_; rintro e w' ⟨rfl, rfl⟩)
              go_ret
              exact ⟨by rw [HF.out]; rfl, H1.out.trans (HB9.out.mono H1.out.size)⟩
          · have HF : Hid (R = false) := Lib.hid (by rw [HS.out]; simp [u2])
            go_wp2
            go_ret
            exact ⟨by rw [HF.out]; rfl, H1.out.trans (HB9.out.mono H1.out.size)⟩
        · have HF : Hid (R = false) := Lib.hid (by rw [HS.out]; simp [u1])
          go_wp2
          go_ret
          exact ⟨by rw [HF.out]; rfl, H1.out.trans (HB9.out.mono H1.out.size)⟩
      · go_wp2
        go_ret
        refine ⟨?_, H1.out.trans (hb.out.mono H1.out.size)⟩
        rw [hR.out, List.drop_eq_nil_iff.2 (by omega)]
        rfl
  · have HF : Hid (R = false) := Lib.hid (by
      rw [HR.out]
      rcases Nat.lt_or_ge 30 b.mails.length with h30 | h30
      · rw [decide_eq_false (by omega)]; simp
      · cases r1 <;> cases r2 <;> cases r3 <;> simp_all)
    have key : r1 = false ∨ (r1 = true ∧ r2 = false) ∨ (r1 = true ∧ r2 = true ∧ r3 = false) ∨ (r1 = true ∧ r2 = true ∧ r3 = true ∧ 30 < b.mails.length) := by
      cases r1 <;> cases r2 <;> cases r3 <;> simp_all
    clear hok HR
    rcases key with rfl | ⟨rfl, rfl⟩ | ⟨rfl, rfl, rfl⟩ | ⟨rfl, rfl, rfl, h30⟩
    all_goals
      go_enter Tryz.func27, Tryz.ntmps27
      go_wp2_with (first | (go_at_call 28; refine (HN.out _).mono ?_; rintro e w' ⟨rfl, rfl⟩) | (go_at_call_of 26 (Value.int IntKind.i64 b.validity); refine (HV.out _).mono ?_; rintro e w' ⟨rfl, rfl⟩) | (go_at_call_of 26 (Value.int IntKind.i64 b.next); refine (HX.out _).mono ?_; rintro e w' ⟨rfl, rfl⟩))
      go_ret
      exact ⟨by rw [HF.out]; rfl, H1.out⟩
end Go.Proofs.YtiapdhllphcnnaaGreatDoor.IX
