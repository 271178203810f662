/- The law ImapFlagsBack: it returns true. Conditions: the state's index reads as plain data; a number of one byte. -/
import Derived.Test.YtiapdhllphcnnaaGreatDoorImapAwake
import Derived.Test.YtiapdhllphcnnaaGreatDoorImapSmall
import Derived.Test.YtiapdhllphcnnaaGreatDoorRefJoin
namespace Go.Proofs.YtiapdhllphcnnaaGreatDoor.IM
open Go.RowKit MM BU Mailsack IX

theorem tok_noop : tokensP [[120, 32, 110, 111, 111, 112]] [] = some [(0, [120]), (0, [110, 111, 111, 112])] := by decide
theorem law_noop (s0 s1 s2 s3 s4 s5 s6 s7 s8 s9 n0 n1 n2 n3 n4 n5 : Value) (hone : ∀ v ∈ [s0, s1, s2, s3, s4, s5, s6, s7, s8, s9], v.oneCell' = true) (w : World) :
    Calls Tryz.prog 11 #[.agg #[.slice none 0 0, .slice none 0 0], .agg #[s0, s1, s2, s3, s4, s5, s6, s7, s8, s9], .string ⟨#[120, 32, 110, 111, 111, 112]⟩, .agg #[n0, n1, n2, n3, n4, n5]] w fun e w' =>
      e = .returned (.tuple #[.agg #[.slice none 0 0, .slice none 0 0], .agg #[s0, s1, s2, s3, s4, s5, s6, s7, s8, s9], .string ⟨#[120, 32, 79, 75, 13, 10]⟩]) ∧ Below w.heap.size w w' :=
  have hone2 : ∀ v ∈ [(Value.slice none 0 0), (Value.slice none 0 0), s0, s1, s2, s3, s4, s5, s6, s7, s8, s9], v.oneCell' = true := fun v hv => by
    rcases List.mem_cons.1 hv with rfl | hv
    · rfl
    · rcases List.mem_cons.1 hv with rfl | hv
      · rfl
      · exact hone v hv
  lawdo_any (.slice none 0 0) (.slice none 0 0) s0 s1 s2 s3 s4 s5 s6 s7 s8 s9 n0 n1 n2 n3 n4 n5 s0 s1 s2 s3 s4 s5 s6 s7 s8 s9 [120, 32, 110, 111, 111, 112] [120, 32, 79, 75, 13, 10] w hone2
    (fun W xv _ hr => do_noop (.slice none 0 0) (.slice none 0 0) s0 s1 s2 s3 s4 s5 s6 s7 s8 s9 n0 n1 n2 n3 n4 n5 xv (.slice none 0 0) [[120, 32, 110, 111, 111, 112]] [] [120] [110, 111, 111, 112] W hr (VB.rds_none W _) (by decide) (by decide) (by decide) hone2 tok_noop (by decide) (by decide) (by decide) (by decide))
/-- the words' cells -/
abbrev fiveL : Array Value := #[.string ⟨#[92, 83, 101, 101, 110]⟩, .string ⟨#[92, 65, 110, 115, 119, 101, 114, 101, 100]⟩, .string ⟨#[92, 70, 108, 97, 103, 103, 101, 100]⟩, .string ⟨#[92, 68, 101, 108, 101, 116, 101, 100]⟩, .string ⟨#[92, 68, 114, 97, 102, 116]⟩]
theorem five_cell {w : World} {k : Nat} (hk : k < 5) {W : World} (hb : Below (w.alloc (.cells fiveL 9)).heap.size (w.alloc (.cells fiveL 9)) W) : W.cell? ⟨w.heap.size, k, none⟩ = some (strV (fw k)) := by
  rw [hb.cell (p := ⟨w.heap.size, k, none⟩) (by simp), cell_blk (blk_new w (.cells fiveL 9))]
  have : k = 0 ∨ k = 1 ∨ k = 2 ∨ k = 3 ∨ k = 4 := by omega
  rcases this with rfl | rfl | rfl | rfl | rfl <;> rfl

theorem back_bits : ∀ n : Fin 32, ∀ k : Fin 5, (bits BinOp.and IntKind.i64 (((n : Nat) : Int) / 2 ^ (k : Nat)) 1 == 1) = flBit n k := by decide +kernel

set_option maxHeartbeats 8000000 in
set_option maxRecDepth 100000 in
theorem imapBack_law (n : Int) (hn0 : 0 ≤ n) (a b c0 bx f1 f2 f3 f4 f5 : ByteArray) (ep rd : Int) (bv sv : Value) (x : IndexP) (o1 o2 : Bool) (w : World) (h : RdIx w w.heap.size bv sv x) (hm : ∀ b ∈ x.boxes, b.mails.length ≤ 9223372036854775807) (hl : x.boxes.length ≤ 9223372036854775807) (hl2 : x.subs.length ≤ 9223372036854775807) :
    Calls Tryz.prog 4 #[.int .u8 n, .agg #[.string a, .string b, .string c0, .int .i64 ep, bv, sv, .int .i64 x.given, .string bx, .bool o1, .bool o2], .agg #[.string f1, .string f2, .string f3, .string f4, .string f5, .int .i64 rd]] w fun e w' =>
      e = .returned (.bool true) ∧ Below w.heap.size w w' := by
  have hb1 : bv.oneCell' = true := by obtain ⟨A, c, rfl, _⟩ := h.boxes; rfl
  have hb2 : sv.oneCell' = true := by obtain ⟨A, c, rfl, _⟩ := h.subs; rfl
  have HS : Hid (∀ W, Below w.heap.size w W → Calls Tryz.prog 10 #[.agg #[.slice none 0 0, .slice none 0 0], .agg #[.string a, .string b, .string c0, .int .i64 ep, bv, sv, .int .i64 x.given, .string bx, .bool o1, .bool o2], .agg #[.string f1, .string f2, .string f3, .string f4, .string f5, .int .i64 rd]] W fun e w' => SomeBool e ∧ Below W.heap.size W w') :=
    Lib.hid (fun W hb => small_any a b c0 bx f1 f2 f3 f4 f5 ep rd bv sv x o1 o2 W ((h.below hb (Nat.le_refl _)).more hb.size) hm hl hl2)
  have HE : Hid (∀ W, Below w.heap.size w W → Calls Tryz.prog 13 #[.agg #[.string a, .string b, .string c0, .int .i64 ep, bv, sv, .int .i64 x.given, .string bx, .bool o1, .bool o2], .agg #[.string a, .string b, .string c0, .int .i64 ep, bv, sv, .int .i64 x.given, .string bx, .bool o1, .bool o2]] W fun e w' => e = .returned (.bool true) ∧ Below W.heap.size W w') :=
    Lib.hid (fun W hb => equal_same a b c0 bx ep bv sv x o1 o2 W ((h.below hb (Nat.le_refl _)).more hb.size) hm hl hl2)
  have HD := Lib.hid (fun W => law_noop (.string a) (.string b) (.string c0) (.int .i64 ep) bv sv (.int .i64 x.given) (.string bx) (.bool o1) (.bool o2) (.string f1) (.string f2) (.string f3) (.string f4) (.string f5) (.int .i64 rd) (fun v hv => by
    simp only [List.mem_cons, List.not_mem_nil, or_false] at hv
    rcases hv with rfl | rfl | rfl | rfl | rfl | rfl | rfl | rfl | rfl | rfl <;> first | rfl | assumption) W)
  have HAW := Lib.hid (fun W => awake_any W)
  clear h hm hl hl2
  generalize x.given = gv at HS HE HD
  have HW := Lib.hid (bel_alloc (bel_alloc (Below.refl w.heap.size w) (Nat.le_refl _) (staO (.string a) (.string b) (.string c0) (.int .i64 ep) bv sv (.int .i64 gv) (.string bx) (.bool o1) (.bool o2))) (Nat.le_refl _) (drwO (.string f1) (.string f2) (.string f3) (.string f4) (.string f5) (.int .i64 rd)))
  have P1 := Lib.hid (two_old w (staO (.string a) (.string b) (.string c0) (.int .i64 ep) bv sv (.int .i64 gv) (.string bx) (.bool o1) (.bool o2)) (drwO (.string f1) (.string f2) (.string f3) (.string f4) (.string f5) (.int .i64 rd)))
  have P2 := Lib.hid (two_new w (staO (.string a) (.string b) (.string c0) (.int .i64 ep) bv sv (.int .i64 gv) (.string bx) (.bool o1) (.bool o2)) (drwO (.string f1) (.string f2) (.string f3) (.string f4) (.string f5) (.int .i64 rd)))
  obtain ⟨i0, hi, hz0, hz1, hz2⟩ := info_parts infoStr
  obtain ⟨m, hm, hm32⟩ : ∃ m : Nat, n.tmod 32 = (m : Int) ∧ m < 32 := by
    have h0 := Int.tmod_eq_emod_of_nonneg hn0 (b := 32)
    exact ⟨(n.tmod 32).toNat, by omega, by omega⟩
  have HM := Lib.hid hm32
  go_enter Tryz.func4, Tryz.ntmps4
  go_wp2_with fail
  refine (HS.out _ HW.out).mono ?_
  rintro e w2 ⟨⟨r, rfl⟩, hb⟩
  have q1 := blk_below P1.out hb (by simp; omega)
  have q2 := blk_below P2.out hb (by simp)
  have HB2 := Lib.hid (HW.out.trans (hb.mono HW.out.size))
  have Q1 := Lib.hid q1
  have Q2 := Lib.hid q2
  clear hb q1 q2 P1 P2 HW HS
  cases r with
  | false =>
    go_wp2_with fail
    refine (HAW.out _).mono ?_
    rintro e w3 ⟨rfl, hb3⟩
    go_wp2
    go_ret
    exact ⟨rfl, HB2.out.trans (hb3.mono HB2.out.size)⟩
  | true =>
    have hsz2 := blk_lt Q2.out
    go_wp2_with fail
    go_loopw [8, 27] (fun vv iv wr => ∃ k : Nat, k ≤ 5 ∧ iv = .int .i64 k ∧ Hid (OwnS wr (w2.heap.size + 1) vv (flW m k)) ∧ Hid (Below (w2.heap.size + 1) (w2.alloc (.cells fiveL 9)) wr)) (fun _ iv _ => 5 - (intOf iv).toNat)
    case atStart => exact ⟨0, by decide, rfl, Lib.hid (OwnS.nil _ _), Lib.hid (Below.refl _ _)⟩
    case round =>
      obtain ⟨k, hk, rfl, ho, hb⟩ := hrel
      obtain ⟨A, c, rfl, hc⟩ := ho.out.form
      have hle := flW_len m k
      by_cases hlt : k < 5
      · have hcl := five_cell hlt (W := wr) (by have := hb.out; simpa using this)
        have hsz : w2.heap.size + 1 ≤ wr.heap.size := by have := hb.out.size; simpa using this
        have HST : Hid (flW m (k + 1) = if flBit m k then flW m k ++ [fw k] else flW m k) := Lib.hid rfl
        have hbit := (back_bits ⟨m, HM.out⟩ ⟨k, hlt⟩ : (bits BinOp.and IntKind.i64 ((m : Int) / 2 ^ k) 1 == 1) = flBit m k)
        generalize flBit m k = b at HST hbit
        have h6 : k = 0 ∨ k = 1 ∨ k = 2 ∨ k = 3 ∨ k = 4 := by omega
        cases b
        · have HK : Hid (OwnS wr (w2.heap.size + 1) (.slice A (flW m k).length c) (flW m (k + 1))) := Lib.hid (by rw [HST.out]; exact ho.out)
          go_wp2
          exact ⟨⟨k + 1, by omega, by go_num, HK, hb⟩, by simp [intOf]; omega⟩
        · obtain ⟨x, hx⟩ : ∃ x, fw k = x := ⟨_, rfl⟩
          rw [hx] at hcl HST
          clear hx
          have HST' : Hid (flW m (k + 1) = flW m k ++ [x]) := Lib.hid (by rw [HST.out, if_pos rfl])
          clear HST
          go_wp2_with (at_builtin; refine wpList_append_lies _ rfl _ _ 22 rfl (w2.heap.size + 1) 9 i0 (.string ⟨#[]⟩) 1 16 Tryz.underlying22 hi hz0 hz1 hz2 rfl (by decide) _ _ _ rfl (ho.out.alloc _) ⟨wr.heap.size, 0, none⟩ 1 1 [strV x] rfl rfl (cell_one_new _ _ _) (one_cell_str _) (by decide) (by unfold maxLen; omega) (by omega) (by simp; omega) _ rfl ?_; intro g cap w3 hown1 hgrow1 hloc1 _; have h9 := Lib.hid (push_one ho.out hown1 hgrow1 (loc_of hloc1) hb.out hsz); clear hown1 hgrow1 hloc1)
          exact ⟨⟨k + 1, by omega, by go_num, Lib.hid (by rw [HST'.out]; exact h9.out.1), Lib.hid h9.out.2.1⟩, by simp [intOf]; omega⟩
      · obtain rfl : k = 5 := by omega
        have HRd := Lib.hid ho.out.rd
        have HF : Hid (Calls Tryz.prog 6 #[.slice A (flW m 5).length c] wr fun e w' => e = .returned (.tuple #[.int .i64 (m : Int), .bool true]) ∧ Below wr.heap.size wr w') := Lib.hid (by
          have h := flagsOf_any (.slice A (flW m 5).length c) (flW m 5) wr ho.out.rd (fun x hx => Nat.le_trans (back_words ⟨m, HM.out⟩ ⟨5, by decide⟩ x hx) (by decide)) (by omega)
          rw [back_of ⟨m, HM.out⟩] at h
          exact h)
        have HB3 := Lib.hid (HB2.out.trans (((bel_alloc (Below.refl w2.heap.size w2) (Nat.le_refl _) (.cells fiveL 9)).trans (hb.out.mono (Nat.le_succ _))).mono HB2.out.size))
        have hszw : w2.heap.size + 1 ≤ wr.heap.size := by have := hb.out.size; simpa using this
        have q1 := blk_below (blk_alloc Q1.out (.cells fiveL 9)) hb.out (by have := blk_lt Q1.out; omega)
        have q2 := blk_below (blk_alloc Q2.out (.cells fiveL 9)) hb.out (by have := blk_lt Q2.out; omega)
        have R1 := Lib.hid q1
        have R2 := Lib.hid q2
        clear q1 q2 Q1 Q2 HB2
        go_wp2_with fail
        refine HF.out.mono ?_
        rintro e w4 ⟨rfl, hb4⟩
        have K1 := blk_below R1.out hb4 (blk_lt R1.out)
        have K2 := blk_below R2.out hb4 (blk_lt R2.out)
        have q0 : w4.cell? ⟨w.heap.size, 0, none⟩ = some (.string a) := cell_blk K1 0
        have q1 : w4.cell? ⟨w.heap.size, 1, none⟩ = some (.string b) := cell_blk K1 1
        have q2 : w4.cell? ⟨w.heap.size, 2, none⟩ = some (.string c0) := cell_blk K1 2
        have q3 : w4.cell? ⟨w.heap.size, 3, none⟩ = some (.int .i64 ep) := cell_blk K1 3
        have q4 : w4.cell? ⟨w.heap.size, 4, none⟩ = some (bv) := cell_blk K1 4
        have q5 : w4.cell? ⟨w.heap.size, 5, none⟩ = some (sv) := cell_blk K1 5
        have q6 : w4.cell? ⟨w.heap.size, 6, none⟩ = some (.int .i64 gv) := cell_blk K1 6
        have q7 : w4.cell? ⟨w.heap.size, 7, none⟩ = some (.string bx) := cell_blk K1 7
        have q8 : w4.cell? ⟨w.heap.size, 8, none⟩ = some (.bool o1) := cell_blk K1 8
        have q9 : w4.cell? ⟨w.heap.size, 9, none⟩ = some (.bool o2) := cell_blk K1 9
        have r0 : w4.cell? ⟨w.heap.size + 1, 0, none⟩ = some (.string f1) := cell_blk K2 0
        have r1 : w4.cell? ⟨w.heap.size + 1, 1, none⟩ = some (.string f2) := cell_blk K2 1
        have r2 : w4.cell? ⟨w.heap.size + 1, 2, none⟩ = some (.string f3) := cell_blk K2 2
        have r3 : w4.cell? ⟨w.heap.size + 1, 3, none⟩ = some (.string f4) := cell_blk K2 3
        have r4 : w4.cell? ⟨w.heap.size + 1, 4, none⟩ = some (.string f5) := cell_blk K2 4
        have r5 : w4.cell? ⟨w.heap.size + 1, 5, none⟩ = some (.int .i64 rd) := cell_blk K2 5
        have M1 := Lib.hid K1
        have M2 := Lib.hid K2
        have HR4 := Lib.hid ((HRd.out.below hb4 (Nat.le_refl _)).more hb4.size)
        have HB4 := Lib.hid (HB3.out.trans (hb4.mono HB3.out.size))
        clear K1 K2 R1 R2 hb4 HRd HF HB3 ho hb
        go_wp2_with fail
        refine (HD.out _).mono ?_
        rintro e w5 ⟨rfl, hb5⟩
        clear q0 q1 q2 q3 q4 q5 q6 q7 q8 q9 r0 r1 r2 r3 r4 r5
        obtain ⟨rr, hrr⟩ : ∃ r : ByteArray, (⟨#[120, 32, 79, 75, 13, 10]⟩ : ByteArray) = r := ⟨_, rfl⟩
        rw [hrr]
        have err : (rr.toList == [120, 32, 79, 75, 13, 10]) = true := by rw [← hrr, ByteArray.toList_eq]; rfl
        clear hrr
        have HB5 := Lib.hid (bel_more (bel_more (HB4.out.trans (hb5.mono HB4.out.size)) (Nat.le_refl _) (dskO (.slice none 0 0) (.slice none 0 0))) (Nat.le_refl _) (staO (.string a) (.string b) (.string c0) (.int .i64 ep) bv sv (.int .i64 gv) (.string bx) (.bool o1) (.bool o2)))
        have HR5 := Lib.hid (HR4.out.below (bel_more (bel_more hb5 (Nat.le_refl _) (dskO (.slice none 0 0) (.slice none 0 0))) (Nat.le_refl _) (staO (.string a) (.string b) (.string c0) (.int .i64 ep) bv sv (.int .i64 gv) (.string bx) (.bool o1) (.bool o2))) (Nat.le_refl _))
        have HR6 := Lib.hid (HR5.out.more (bel_more (bel_more hb5 (Nat.le_refl _) (dskO (.slice none 0 0) (.slice none 0 0))) (Nat.le_refl _) (staO (.string a) (.string b) (.string c0) (.int .i64 ep) bv sv (.int .i64 gv) (.string bx) (.bool o1) (.bool o2))).size)
        have N1 := Lib.hid (blk_alloc (blk_alloc (blk_below M1.out hb5 (blk_lt M1.out)) (dskO (.slice none 0 0) (.slice none 0 0))) (staO (.string a) (.string b) (.string c0) (.int .i64 ep) bv sv (.int .i64 gv) (.string bx) (.bool o1) (.bool o2)))
        have N3 := Lib.hid (two_new w5 (dskO (.slice none 0 0) (.slice none 0 0)) (staO (.string a) (.string b) (.string c0) (.int .i64 ep) bv sv (.int .i64 gv) (.string bx) (.bool o1) (.bool o2)))
        clear hb5 M1 M2 HR4 HR5 HB4
        have T4 := fun (W : World) (p : Addr) => run_store Tryz.prog W p bv .plain hb1
        have T5 := fun (W : World) (p : Addr) => run_store Tryz.prog W p sv .plain hb2
        go_upto_region 13 with fail
        clear T4 T5
        generalize hw6 : (w5.alloc (dskO (.slice none 0 0) (.slice none 0 0))).alloc (staO (.string a) (.string b) (.string c0) (.int .i64 ep) bv sv (.int .i64 gv) (.string bx) (.bool o1) (.bool o2)) = w6 at HB5 HR6 N1 N3 ⊢
        clear hw6
        obtain ⟨fb, hfb⟩ : ∃ fb : ByteArray, (⟨(flagsP (m : Int)).toArray⟩ : ByteArray) = fb := ⟨_, rfl⟩
        have efb : (fb.toList == fb.toList) = true := beq_self_eq_true _
        have emm : ((m : Int) == (m : Int)) = true := beq_self_eq_true _
        have HG : Hid (∀ W, Calls Tryz.prog 8 #[.int .i64 (m : Int)] W fun e w' => e = .returned (.string fb) ∧ Below W.heap.size W w') := Lib.hid (fun W => by
          rw [← hfb]
          exact flags_any (m : Int) W)
        have HJ : Hid (∀ W, Below w6.heap.size w6 W → Calls Tryz.prog 12 #[.slice A (flW m 5).length c, .string ⟨#[32]⟩] W fun e w' => e = .returned (.string fb) ∧ Below W.heap.size W w') := Lib.hid (fun W hW => by
          have h := rjoin_any (.slice A (flW m 5).length c) (flW m 5) [32] W ((HR6.out.below hW (Nat.le_refl _)).more hW.size) (fun x hx => Nat.le_trans (back_words ⟨m, HM.out⟩ ⟨5, by decide⟩ x hx) (by decide)) (by decide) (by omega) (fun k hk => Nat.le_trans (back_short ⟨m, HM.out⟩ ⟨k, by omega⟩) (by decide))
          rw [back_join ⟨m, HM.out⟩] at h
          rw [← hfb]
          exact h)
        clear hfb HR6
        refine RG.wp_region_plain (fun W => Hid (Below w6.heap.size w6 W)) (Lib.hid (Below.refl _ _)) ?_
        iterate 8
          apply RG.wpDet_cons
          · intro w9 hw9
            repeat go_step
            with_reducible refine RG.only_mk ?_
            exact hw9
          · rfl
        apply RG.wpDet_cons
        · intro w9 hw9
          repeat go_step
          refine (HG.out _).mono ?_
          rintro e w10 ⟨rfl, hb10⟩
          simp only []
          repeat go_step
          with_reducible refine RG.only_mk ?_
          exact Lib.hid (hw9.out.trans (hb10.mono hw9.out.size))
        · rfl
        iterate 1
          apply RG.wpDet_cons
          · intro w9 hw9
            repeat go_step
            with_reducible refine RG.only_mk ?_
            exact hw9
          · rfl
        apply RG.wpDet_cons
        · intro w9 hw9
          repeat go_step
          refine (HJ.out _ hw9.out).mono ?_
          rintro e w10 ⟨rfl, hb10⟩
          simp only []
          repeat go_step
          with_reducible refine RG.only_mk ?_
          exact Lib.hid (hw9.out.trans (hb10.mono hw9.out.size))
        · rfl
        iterate 7
          apply RG.wpDet_cons
          · intro w9 hw9
            repeat go_step
            with_reducible refine RG.only_mk ?_
            exact hw9
          · rfl
        apply RG.wpDet_cons
        · intro w9 hw9
          have q0 := cell_blk (blk_below N1.out hw9.out (blk_lt N1.out)) 0
          have q1 := cell_blk (blk_below N1.out hw9.out (blk_lt N1.out)) 1
          have q2 := cell_blk (blk_below N1.out hw9.out (blk_lt N1.out)) 2
          have q3 := cell_blk (blk_below N1.out hw9.out (blk_lt N1.out)) 3
          have q4 := cell_blk (blk_below N1.out hw9.out (blk_lt N1.out)) 4
          have q5 := cell_blk (blk_below N1.out hw9.out (blk_lt N1.out)) 5
          have q6 := cell_blk (blk_below N1.out hw9.out (blk_lt N1.out)) 6
          have q7 := cell_blk (blk_below N1.out hw9.out (blk_lt N1.out)) 7
          have q8 := cell_blk (blk_below N1.out hw9.out (blk_lt N1.out)) 8
          have q9 := cell_blk (blk_below N1.out hw9.out (blk_lt N1.out)) 9
          repeat go_step
          with_reducible refine RG.only_mk ?_
          exact hw9
        · rfl
        apply RG.wpDet_cons
        · intro w9 hw9
          have p0 := cell_blk (blk_below N3.out hw9.out (blk_lt N3.out)) 0
          have p1 := cell_blk (blk_below N3.out hw9.out (blk_lt N3.out)) 1
          have p2 := cell_blk (blk_below N3.out hw9.out (blk_lt N3.out)) 2
          have p3 := cell_blk (blk_below N3.out hw9.out (blk_lt N3.out)) 3
          have p4 := cell_blk (blk_below N3.out hw9.out (blk_lt N3.out)) 4
          have p5 := cell_blk (blk_below N3.out hw9.out (blk_lt N3.out)) 5
          have p6 := cell_blk (blk_below N3.out hw9.out (blk_lt N3.out)) 6
          have p7 := cell_blk (blk_below N3.out hw9.out (blk_lt N3.out)) 7
          have p8 := cell_blk (blk_below N3.out hw9.out (blk_lt N3.out)) 8
          have p9 := cell_blk (blk_below N3.out hw9.out (blk_lt N3.out)) 9
          repeat go_step
          with_reducible refine RG.only_mk ?_
          exact hw9
        · rfl
        apply RG.wpDet_cons
        · intro w9 hw9
          repeat go_step
          refine (HE.out _ (HB5.out.trans (hw9.out.mono HB5.out.size))).mono ?_
          rintro e w10 ⟨rfl, hb10⟩
          simp only []
          repeat go_step
          with_reducible refine RG.only_mk ?_
          exact Lib.hid (hw9.out.trans (hb10.mono hw9.out.size))
        · rfl
        iterate 2
          apply RG.wpDet_cons
          · intro w9 hw9
            repeat go_step
            with_reducible refine RG.only_mk ?_
            exact hw9
          · rfl
        apply RG.wpDet_cons
        · intro w9 hw9
          repeat go_step
          refine (HAW.out _).mono ?_
          rintro e w10 ⟨rfl, hb10⟩
          simp only []
          repeat go_step
          with_reducible refine RG.only_mk ?_
          exact Lib.hid (hw9.out.trans (hb10.mono hw9.out.size))
        · rfl
        iterate 2
          apply RG.wpDet_cons
          · intro w9 hw9
            repeat go_step
            with_reducible refine RG.only_mk ?_
            exact hw9
          · rfl
        refine RG.wpDet_nil (fun w7 hw7 => ?_)
        go_wp2
        go_ret
        exact ⟨rfl, HB5.out.trans (hw7.out.mono HB5.out.size)⟩
end Go.Proofs.YtiapdhllphcnnaaGreatDoor.IM
