/- Law 22's small returns a truth value and writes nothing that was there. Conditions: the state's index reads as plain data. -/
import Derived.Test.YtiapdhllphcnnaaGreatDoorIndexEq
import Derived.Test.YtiapdhllphcnnaaGreatDoorRegL
import Derived.BigGuard
namespace Go.Proofs.YtiapdhllphcnnaaGreatDoor.IX
open Go.RowKit Mailsack MM BU VB

/-- the call returns a truth value -/
def SomeBool (e : Ending) : Prop := ∃ r, e = .returned (.bool r)
set_option maxHeartbeats 16000000 in
set_option maxRecDepth 100000 in
theorem small_any (a b c bx f1 f2 f3 f4 f5 : ByteArray) (ep rd : Int) (bv sv : Value) (x : IndexP) (o1 o2 : Bool) (w : World) (h : RdIx w w.heap.size bv sv x) (hm : ∀ b ∈ x.boxes, b.mails.length ≤ 9223372036854775807) (hl : x.boxes.length ≤ 9223372036854775807) (hl2 : x.subs.length ≤ 9223372036854775807) :
    Calls Tryz.prog 10 #[.agg #[.slice none 0 0, .slice none 0 0], .agg #[.string a, .string b, .string c, .int .i64 ep, bv, sv, .int .i64 x.given, .string bx, .bool o1, .bool o2], .agg #[.string f1, .string f2, .string f3, .string f4, .string f5, .int .i64 rd]] w fun e w' => SomeBool e ∧ Below w.heap.size w w' := by
  have HP : Hid (∀ W, Below w.heap.size w W → Calls Tryz.prog 19 #[.agg #[bv, sv, .int .i64 x.given]] W fun e w' => e = .returned (.bool (rightP x)) ∧ Below W.heap.size W w') :=
    Lib.hid (fun W hb => right_any bv sv x W ((h.below hb (Nat.le_refl _)).more hb.size) hm hl hl2)
  have hb1 : bv.oneCell' = true := by obtain ⟨A, c, rfl, _⟩ := h.boxes; rfl
  have hb2 : sv.oneCell' = true := by obtain ⟨A, c, rfl, _⟩ := h.subs; rfl
  clear h hm hl hl2
  generalize rightP x = R at HP
  have HW := Lib.hid (bel_alloc (bel_alloc (bel_alloc (bel_alloc (Below.refl w.heap.size w) (Nat.le_refl _) (.cells #[.slice none 0 0, .slice none 0 0] 42)) (Nat.le_refl _) (.cells #[.string a, .string b, .string c, .int .i64 ep, bv, sv, .int .i64 x.given, .string bx, .bool o1, .bool o2] 34)) (Nat.le_refl _) (.cells #[.string f1, .string f2, .string f3, .string f4, .string f5, .int .i64 rd] 38)) (Nat.le_refl _) (.cells #[.string f3, .string f4, .string f5, .int .i64 rd] 36))
  have P3 : Hid (((((w.alloc (.cells #[.slice none 0 0, .slice none 0 0] 42)).alloc (.cells #[.string a, .string b, .string c, .int .i64 ep, bv, sv, .int .i64 x.given, .string bx, .bool o1, .bool o2] 34)).alloc (.cells #[.string f1, .string f2, .string f3, .string f4, .string f5, .int .i64 rd] 38)).alloc (.cells #[.string f3, .string f4, .string f5, .int .i64 rd] 36)).heap[w.heap.size + 1 + 1]? = some (.cells #[.string f1, .string f2, .string f3, .string f4, .string f5, .int .i64 rd] 38)) := Lib.hid (by have := blk_alloc (blk_new ((w.alloc (.cells #[.slice none 0 0, .slice none 0 0] 42)).alloc (.cells #[.string a, .string b, .string c, .int .i64 ep, bv, sv, .int .i64 x.given, .string bx, .bool o1, .bool o2] 34)) (.cells #[.string f1, .string f2, .string f3, .string f4, .string f5, .int .i64 rd] 38)) (.cells #[.string f3, .string f4, .string f5, .int .i64 rd] 36); simpa only [size_new] using this)
  have P4 : Hid (((((w.alloc (.cells #[.slice none 0 0, .slice none 0 0] 42)).alloc (.cells #[.string a, .string b, .string c, .int .i64 ep, bv, sv, .int .i64 x.given, .string bx, .bool o1, .bool o2] 34)).alloc (.cells #[.string f1, .string f2, .string f3, .string f4, .string f5, .int .i64 rd] 38)).alloc (.cells #[.string f3, .string f4, .string f5, .int .i64 rd] 36)).heap[w.heap.size + 1 + 1 + 1]? = some (.cells #[.string f3, .string f4, .string f5, .int .i64 rd] 36)) := Lib.hid (by have := blk_new (((w.alloc (.cells #[.slice none 0 0, .slice none 0 0] 42)).alloc (.cells #[.string a, .string b, .string c, .int .i64 ep, bv, sv, .int .i64 x.given, .string bx, .bool o1, .bool o2] 34)).alloc (.cells #[.string f1, .string f2, .string f3, .string f4, .string f5, .int .i64 rd] 38)) (.cells #[.string f3, .string f4, .string f5, .int .i64 rd] 36); simpa only [size_new] using this)
  obtain ⟨r0, hr0⟩ : ∃ r0, (a.toList == []) = r0 := ⟨_, rfl⟩
  by_cases ha : (a.size : Int) ≤ 100
  · by_cases hb : (b.size : Int) ≤ 100
    · by_cases hc : (c.size : Int) ≤ 100
      · cases r0 with
        | true =>
          by_cases h1 : (f1.size : Int) ≤ 100
          · by_cases h2 : (f2.size : Int) ≤ 100
            · go_enter Tryz.func10, Tryz.ntmps10
              go_upto_region 2 with fail
              refine RG.wp_region_plain (fun W => W = _) rfl ?_
              iterate 70
                apply RG.wpDet_cons
                · rintro _ rfl
                  first
                    | (repeat go_step
                       with_reducible exact RG.only_mk rfl
                       done)
                    | exact RG.only_skip (by rfl) rfl rfl
                · rfl
              refine RG.wpDet_nil (fun w4 hb4 => ?_)
              subst hb4
              go_wp2
              go_ret
              exact ⟨⟨_, rfl⟩, HW.out⟩
            · go_enter Tryz.func10, Tryz.ntmps10
              go_upto_region 2 with fail
              refine RG.wp_region_plain (fun W => W = _) rfl ?_
              iterate 70
                apply RG.wpDet_cons
                · rintro _ rfl
                  first
                    | (repeat go_step
                       with_reducible exact RG.only_mk rfl
                       done)
                    | exact RG.only_skip (by rfl) rfl rfl
                · rfl
              refine RG.wpDet_nil (fun w4 hb4 => ?_)
              subst hb4
              go_wp2
              go_ret
              exact ⟨⟨_, rfl⟩, HW.out⟩
          · go_enter Tryz.func10, Tryz.ntmps10
            go_upto_region 2 with fail
            refine RG.wp_region_plain (fun W => W = _) rfl ?_
            iterate 70
              apply RG.wpDet_cons
              · rintro _ rfl
                first
                  | (repeat go_step
                     with_reducible exact RG.only_mk rfl
                     done)
                  | exact RG.only_skip (by rfl) rfl rfl
              · rfl
            refine RG.wpDet_nil (fun w4 hb4 => ?_)
            subst hb4
            go_wp2
            go_ret
            exact ⟨⟨_, rfl⟩, HW.out⟩
        | false =>
          cases R with
          | true =>
            by_cases h1 : (f1.size : Int) ≤ 100
            · by_cases h2 : (f2.size : Int) ≤ 100
              · go_enter Tryz.func10, Tryz.ntmps10
                go_upto_region 2 with fail
                repeat (first | go_big_skip | go_step)
                refine (HP.out _ HW.out).mono ?_
                rintro e w2 ⟨rfl, hb⟩
                have p3 := blk_below P3.out hb (by simp)
                have p4 := blk_below P4.out hb (by simp)
                have y0 : w2.cell? ⟨w.heap.size + 1 + 1, 0, none⟩ = some (.string f1) := cell_blk p3 0
                have y1 : w2.cell? ⟨w.heap.size + 1 + 1, 1, none⟩ = some (.string f2) := cell_blk p3 1
                have z0 : w2.cell? ⟨w.heap.size + 1 + 1 + 1, 0, none⟩ = some (.string f3) := cell_blk p4 0
                have z1 : w2.cell? ⟨w.heap.size + 1 + 1 + 1, 1, none⟩ = some (.string f4) := cell_blk p4 1
                have z2 : w2.cell? ⟨w.heap.size + 1 + 1 + 1, 2, none⟩ = some (.string f5) := cell_blk p4 2
                have HB2 := Lib.hid (HW.out.trans (hb.mono HW.out.size))
                clear hb p3 p4
                repeat (first | go_big_skip | go_step)
                go_wp2
                go_ret
                exact ⟨⟨_, rfl⟩, HB2.out⟩
              · go_enter Tryz.func10, Tryz.ntmps10
                go_upto_region 2 with fail
                repeat (first | go_big_skip | go_step)
                refine (HP.out _ HW.out).mono ?_
                rintro e w2 ⟨rfl, hb⟩
                have p3 := blk_below P3.out hb (by simp)
                have p4 := blk_below P4.out hb (by simp)
                have y0 : w2.cell? ⟨w.heap.size + 1 + 1, 0, none⟩ = some (.string f1) := cell_blk p3 0
                have y1 : w2.cell? ⟨w.heap.size + 1 + 1, 1, none⟩ = some (.string f2) := cell_blk p3 1
                have z0 : w2.cell? ⟨w.heap.size + 1 + 1 + 1, 0, none⟩ = some (.string f3) := cell_blk p4 0
                have z1 : w2.cell? ⟨w.heap.size + 1 + 1 + 1, 1, none⟩ = some (.string f4) := cell_blk p4 1
                have z2 : w2.cell? ⟨w.heap.size + 1 + 1 + 1, 2, none⟩ = some (.string f5) := cell_blk p4 2
                have HB2 := Lib.hid (HW.out.trans (hb.mono HW.out.size))
                clear hb p3 p4
                repeat (first | go_big_skip | go_step)
                go_wp2
                go_ret
                exact ⟨⟨_, rfl⟩, HB2.out⟩
            · go_enter Tryz.func10, Tryz.ntmps10
              go_upto_region 2 with fail
              repeat (first | go_big_skip | go_step)
              refine (HP.out _ HW.out).mono ?_
              rintro e w2 ⟨rfl, hb⟩
              have p3 := blk_below P3.out hb (by simp)
              have p4 := blk_below P4.out hb (by simp)
              have y0 : w2.cell? ⟨w.heap.size + 1 + 1, 0, none⟩ = some (.string f1) := cell_blk p3 0
              have y1 : w2.cell? ⟨w.heap.size + 1 + 1, 1, none⟩ = some (.string f2) := cell_blk p3 1
              have z0 : w2.cell? ⟨w.heap.size + 1 + 1 + 1, 0, none⟩ = some (.string f3) := cell_blk p4 0
              have z1 : w2.cell? ⟨w.heap.size + 1 + 1 + 1, 1, none⟩ = some (.string f4) := cell_blk p4 1
              have z2 : w2.cell? ⟨w.heap.size + 1 + 1 + 1, 2, none⟩ = some (.string f5) := cell_blk p4 2
              have HB2 := Lib.hid (HW.out.trans (hb.mono HW.out.size))
              clear hb p3 p4
              repeat (first | go_big_skip | go_step)
              go_wp2
              go_ret
              exact ⟨⟨_, rfl⟩, HB2.out⟩
          | false =>
            go_enter Tryz.func10, Tryz.ntmps10
            go_upto_region 2 with fail
            repeat (first | go_big_skip | go_step)
            refine (HP.out _ HW.out).mono ?_
            rintro e w2 ⟨rfl, hb⟩
            have p3 := blk_below P3.out hb (by simp)
            have p4 := blk_below P4.out hb (by simp)
            have y0 : w2.cell? ⟨w.heap.size + 1 + 1, 0, none⟩ = some (.string f1) := cell_blk p3 0
            have y1 : w2.cell? ⟨w.heap.size + 1 + 1, 1, none⟩ = some (.string f2) := cell_blk p3 1
            have z0 : w2.cell? ⟨w.heap.size + 1 + 1 + 1, 0, none⟩ = some (.string f3) := cell_blk p4 0
            have z1 : w2.cell? ⟨w.heap.size + 1 + 1 + 1, 1, none⟩ = some (.string f4) := cell_blk p4 1
            have z2 : w2.cell? ⟨w.heap.size + 1 + 1 + 1, 2, none⟩ = some (.string f5) := cell_blk p4 2
            have HB2 := Lib.hid (HW.out.trans (hb.mono HW.out.size))
            clear hb p3 p4
            repeat (first | go_big_skip | go_step)
            go_wp2
            go_ret
            exact ⟨⟨_, rfl⟩, HB2.out⟩
      · go_enter Tryz.func10, Tryz.ntmps10
        go_upto_region 2 with fail
        refine RG.wp_region_plain (fun W => W = _) rfl ?_
        iterate 70
          apply RG.wpDet_cons
          · rintro _ rfl
            first
              | (repeat go_step
                 with_reducible exact RG.only_mk rfl
                 done)
              | exact RG.only_skip (by rfl) rfl rfl
          · rfl
        refine RG.wpDet_nil (fun w4 hb4 => ?_)
        subst hb4
        go_wp2
        go_ret
        exact ⟨⟨_, rfl⟩, HW.out⟩
    · go_enter Tryz.func10, Tryz.ntmps10
      go_upto_region 2 with fail
      refine RG.wp_region_plain (fun W => W = _) rfl ?_
      iterate 70
        apply RG.wpDet_cons
        · rintro _ rfl
          first
            | (repeat go_step
               with_reducible exact RG.only_mk rfl
               done)
            | exact RG.only_skip (by rfl) rfl rfl
        · rfl
      refine RG.wpDet_nil (fun w4 hb4 => ?_)
      subst hb4
      go_wp2
      go_ret
      exact ⟨⟨_, rfl⟩, HW.out⟩
  · go_enter Tryz.func10, Tryz.ntmps10
    go_upto_region 2 with fail
    refine RG.wp_region_plain (fun W => W = _) rfl ?_
    iterate 70
      apply RG.wpDet_cons
      · rintro _ rfl
        first
          | (repeat go_step
             with_reducible exact RG.only_mk rfl
             done)
          | exact RG.only_skip (by rfl) rfl rfl
      · rfl
    refine RG.wpDet_nil (fun w4 hb4 => ?_)
    subst hb4
    go_wp2
    go_ret
    exact ⟨⟨_, rfl⟩, HW.out⟩
end Go.Proofs.YtiapdhllphcnnaaGreatDoor.IX
