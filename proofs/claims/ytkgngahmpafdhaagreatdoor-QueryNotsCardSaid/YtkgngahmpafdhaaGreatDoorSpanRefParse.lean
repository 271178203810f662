/- What the document's Parse returns, for any text. Conditions: the text's length. -/
import Derived.Test.YtkgngahmpafdhaaGreatDoorSpanRefNum
import Derived.Test.YtkgngahmpafdhaaGreatDoorSpanRef
namespace Go.Proofs.YtkgngahmpafdhaaGreatDoor.SP
open Go.RowKit Mailsack MM

theorem row_setFar {E : TypeId} {sz n : Nat} {xs : List Value} {w : World} {base : Nat} {v : Value} (h : w.ownsRow base E sz v n xs) {p : Addr} (u : Value) (hne : ∀ k, v.ownBlock = some k → k ≠ p.block) : (w.setCell p u).ownsRow base E sz v n xs := by
  refine ⟨h.1, ?_⟩
  rcases h.2 with hn | ⟨g, cap, cur, h1, h2, h3, h4⟩
  · exact .inl hn
  · exact .inr ⟨g, cap, cur, h1, h2, blk_far h3 (hne g (by rw [h1]; rfl)) u, h4⟩
def RPost (w : World) (R : Option (List (Int × Int))) (e : Ending) (w' : World) : Prop := match R with
  | none => e = .returned (.tuple #[.slice none 0 0, .bool false]) ∧ Below w.heap.size w w'
  | some L => ∃ v, e = .returned (.tuple #[v, .bool true]) ∧ OwnE 73 w' w.heap.size v L ∧ Below w.heap.size w w'
theorem num_none {s : ByteArray} {i : Nat} (hi : i ≤ s.size) (hl : s.size ≤ 1000000) (h : refN (s.data.toList.drop i) = none) (w : World) :
    Calls Tryz.prog 35 #[.string s, .int .i64 (i : Int)] w fun e w' => e = .returned (.tuple #[.int .i64 0, .int .i64 (-1)]) ∧ w = w' := by
  have := refNum_any s i w hi hl
  rw [h] at this
  exact this
theorem num_some {s : ByteArray} {i k nx : Nat} {n : Int} (hi : i ≤ s.size) (hl : s.size ≤ 1000000) (h : refN (s.data.toList.drop i) = some (n, k)) (hn : nx = i + k) (w : World) :
    Calls Tryz.prog 35 #[.string s, .int .i64 (i : Int)] w fun e w' => e = .returned (.tuple #[.int .i64 n, .int .i64 (nx : Int)]) ∧ w = w' := by
  have := refNum_any s i w hi hl
  rw [h] at this
  subst hn
  exact this
theorem succ_cast (i : Nat) : ((i + 1 : Nat) : Int) = (i : Int) + 1 := by simp
theorem get_of {s : ByteArray} {i m nx : Nat} (hn : nx = i + m) (h : nx < s.size) : (s.data.toList.drop i)[m]? = some (s[nx]'h) := by
  subst hn; exact drop_get s i m h
theorem fin_one {S D : Bs} {acc : List (Int × Int)} {x : Int × Int} {m : Nat} (hp : parseS S = (parseS D).map (acc ++ ·)) (ht : TailRule D x m) (hm : m = D.length) : parseS S = some (acc ++ [x]) := by
  rw [hp, ht.2.1 hm]; rfl
theorem fin_more {S D : Bs} {acc : List (Int × Int)} {x : Int × Int} {m : Nat} (hp : parseS S = (parseS D).map (acc ++ ·)) (ht : TailRule D x m) (hm : D[m]? = some 44) : parseS S = (parseS (D.drop (m + 1))).map ((acc ++ [x]) ++ ·) := by
  rw [hp, ht.2.2.1 hm, Option.map_map]
  congr 1
  funext l; simp
theorem fin_none {S D : Bs} {acc : List (Int × Int)} {x : Int × Int} {m : Nat} (hp : parseS S = (parseS D).map (acc ++ ·)) (ht : TailRule D x m) (hm : m < D.length) (h : D[m]? ≠ some 44) : parseS S = none := by
  rw [hp, ht.2.2.2 hm h]; rfl
theorem fin_bad {S D : Bs} {acc : List (Int × Int)} (hp : parseS S = (parseS D).map (acc ++ ·)) (h : parseS D = none) : parseS S = none := by rw [hp, h]; rfl

set_option maxHeartbeats 4000000 in
set_option maxRecDepth 100000 in
theorem refParse_any (s : ByteArray) (w : World) (hl : s.size ≤ 1000000) :
    Calls Tryz.prog 13 #[.string s] w (RPost w (parseS s.data.toList)) := by
  obtain ⟨i0, hi0, hz0, hz1, hz2⟩ := info_parts infoQ
  go_enter Tryz.func13, Tryz.ntmps13
  go_wp2
  go_loopw [4, 5] (fun lv av wr => ∃ (acc : List (Int × Int)) (i : Nat), i ≤ s.size ∧ acc.length ≤ i ∧ av = .int .i64 (i : Int) ∧ Hid (Below w.heap.size w wr) ∧ Hid (OwnE 73 wr w.heap.size lv acc) ∧ Hid (parseS s.data.toList = (parseS (s.data.toList.drop i)).map (acc ++ ·))) (fun _ a _ => s.size - (intOf a).toNat)
  case atStart => exact ⟨[], 0, Nat.zero_le _, Nat.le_refl _, rfl, Lib.hid (Below.refl _ _), Lib.hid (OwnE.nil _ _ _), Lib.hid (by simp)⟩
  case round =>
    obtain ⟨acc, i, hi, hacc, rfl, hb, ho, hp⟩ := hrel
    obtain ⟨hs1, hs2⟩ := parse_step (s.data.toList.drop i)
    have hsz := hb.out.size
    have hDl := drop_len s i
    obtain ⟨A', c', rfl, _⟩ := ho.out.form
    cases hr : refN (s.data.toList.drop i) with
    | none =>
      have Hf := Lib.hid (fin_bad hp.out (hs1 hr))
      have N := Lib.hid (num_none hi hl hr)
      clear hs1 hs2 hr hp ho hDl
      go_wp2_with fail
      refine (N.out _).mono ?_
      rintro e w' ⟨rfl, rfl⟩
      go_wp2
      go_ret2
      rw [Hf.out]
      exact ⟨rfl, hb.out⟩
    | some p =>
      obtain ⟨a, k⟩ := p
      obtain ⟨hk, hT, hC⟩ := hs2 a k hr
      rw [hDl] at hk
      obtain ⟨nx, hnx⟩ : ∃ nx, nx = i + k := ⟨_, rfl⟩
      have hnl : nx ≤ s.size := by omega
      have N := Lib.hid (num_some hi hl hr hnx)
      by_cases h58 : (s.data.toList.drop i)[k]? = some 58
      · have hlt : nx < s.size := by
          have := (List.getElem?_eq_some_iff.1 h58).1
          omega
        have hc58 : (((s[nx]'hlt).toNat : Int) == 58) = true := by
          have := get_of hnx hlt
          rw [h58] at this
          rw [beq_iff_eq]
          exact (byte_eq (n := 58) (by decide)).2 (Option.some.inj this).symm
        have hdr : (s.data.toList.drop i).drop (k + 1) = s.data.toList.drop (nx + 1) := by rw [List.drop_drop, hnx]; congr 1
        obtain ⟨hC1, hC2⟩ := hC h58
        rw [hdr] at hC1 hC2
        cases hr2 : refN (s.data.toList.drop (nx + 1)) with
        | none =>
          have Hf := Lib.hid (fin_bad hp.out (hC1 hr2))
          have N2 := Lib.hid (fun w => num_none (show nx + 1 ≤ s.size from hlt) hl hr2 w)
          rw [succ_cast] at N2
          have Hb9 := Lib.hid (hb.out.alloc hsz (.cells #[.int .i64 a, .int .i64 0] 73))
          clear hs1 hs2 hr hp ho hDl hC hC1 hC2 hT hdr h58 hr2 hk hnx
          go_wp2_with fail
          refine (N.out _).mono ?_
          rintro e w' ⟨rfl, rfl⟩
          go_wp2_with fail
          refine (N2.out _).mono ?_
          rintro e w' ⟨rfl, rfl⟩
          go_wp2
          go_ret2
          rw [Hf.out]
          refine ⟨rfl, ?_⟩
          with_reducible exact Hb9.out
        | some p2 =>
          obtain ⟨b, j⟩ := p2
          have hTR := hC2 b j hr2
          obtain ⟨n2, hn2⟩ : ∃ n2, n2 = nx + 1 + j := ⟨_, rfl⟩
          have hm : n2 = i + (k + 1 + j) := by omega
          generalize k + 1 + j = m at hTR hm
          have hml := hTR.1
          rw [hDl] at hml
          have N2 := Lib.hid (fun w => num_some (show nx + 1 ≤ s.size from hlt) hl hr2 hn2 w)
          rw [succ_cast] at N2
          have Hb2 := Lib.hid (hb.out.alloc hsz (.cells #[.int .i64 a, .int .i64 b] 73))
          have Hblk := Lib.hid (blk_new wr (.cells #[.int .i64 a, .int .i64 b] 73))
          have Ho := Lib.hid (World.ownsRow.alloc ho.out (.cells #[.int .i64 a, .int .i64 b] 73))
          have hsz1 : Hid ((wr.alloc (.cells #[.int .i64 a, .int .i64 b] 73)).heap.size = wr.heap.size + 1) := Lib.hid (by rw [size_new])
          by_cases hend : n2 = s.size
          · have Hf := Lib.hid (fin_one hp.out hTR (by rw [hDl]; omega))
            have hendb : ((n2 : Int) == (s.size : Int)) = true := by simp [hend]
            have hge : s.size ≤ n2 := by omega
            have hle9 : n2 ≤ s.size := by omega
            clear hend
            clear hs1 hs2 hr hp ho hT hC h58 hTR hDl hml hk hC1 hC2 hdr hr2 hm hn2 hnx
            go_wp2_with fail
            refine (N.out _).mono ?_
            rintro e w' ⟨rfl, rfl⟩
            go_wp2_with fail
            refine (N2.out _).mono ?_
            rintro e w' ⟨rfl, rfl⟩
            go_upto_region 11 with fail
            generalize (wr.alloc (.cells #[.int .i64 a, .int .i64 b] 73)) = W1 at Hb2 Hblk Ho hsz1 ⊢
            have k0 : W1.cell? ⟨wr.heap.size, 0, none⟩ = some (.int .i64 a) := cell_blk Hblk.out 0
            have k1 : W1.cell? ⟨wr.heap.size, 1, none⟩ = some (.int .i64 b) := cell_blk Hblk.out 1
            go_wp2_with (at_builtin; refine wpList_append_lies _ rfl _ _ 50 rfl w.heap.size 73 i0 (.agg #[.int .i64 0, .int .i64 0]) 2 16 Tryz.underlying50 hi0 hz0 hz1 hz2 rfl (by decide) _ _ _ rfl (World.ownsRow.alloc Ho.out _) ⟨W1.heap.size, 0, none⟩ 1 1 [.int .i64 a, .int .i64 b] rfl rfl (World.news_of_block (blk_new _ _)) (two_int _ _) (by decide) (by unfold maxLen; omega) (by omega) (by have := hsz1.out; simp; omega) (W1.heap.size + 1) (by simp) ?_; intro g cap w2 hown2 hgrow hat hlt2; have Hown2 := Lib.hid (OwnE.push (r := (a, b)) hown2); have Hb3 := Lib.hid ((Hb2.out.alloc (Nat.le_trans hsz (by have := hsz1.out; omega)) _).grown hgrow (by have := hsz1.out; simp; omega) (fun k hk => (World.ownsRow.lt Ho.out k hk).1)); clear hown2 hgrow)
            go_ret2
            rw [Hf.out]
            exact ⟨_, rfl, Hown2.out, Hb3.out⟩
          · have hlt9 : n2 < s.size := by omega
            have hendb : ((n2 : Int) == (s.size : Int)) = false := by rw [beq_eq_false_iff_ne]; omega
            clear hend
            by_cases h44 : ((s[n2]'hlt9).toNat : Int) = 44
            · have h44' : (s.data.toList.drop i)[m]? = some 44 := by rw [get_of hm hlt9]; exact congrArg some ((byte_eq (n := 44) (by decide)).1 h44)
              have Hf := fin_more hp.out hTR h44'
              rw [List.drop_drop, show i + (m + 1) = n2 + 1 by omega] at Hf
              have Hf2 := Lib.hid Hf
              have hii : i ≤ n2 := by omega
              clear Hf h44'
              clear hs1 hs2 hr hp ho hT hC h58 hTR hDl hml hk hC1 hC2 hdr hr2 hm hn2 hnx
              go_wp2_with fail
              refine (N.out _).mono ?_
              rintro e w' ⟨rfl, rfl⟩
              go_wp2_with fail
              refine (N2.out _).mono ?_
              rintro e w' ⟨rfl, rfl⟩
              go_upto_region 11 with fail
              generalize (wr.alloc (.cells #[.int .i64 a, .int .i64 b] 73)) = W1 at Hb2 Hblk Ho hsz1 ⊢
              have k0 : W1.cell? ⟨wr.heap.size, 0, none⟩ = some (.int .i64 a) := cell_blk Hblk.out 0
              have k1 : W1.cell? ⟨wr.heap.size, 1, none⟩ = some (.int .i64 b) := cell_blk Hblk.out 1
              go_wp2_with (at_builtin; refine wpList_append_lies _ rfl _ _ 50 rfl w.heap.size 73 i0 (.agg #[.int .i64 0, .int .i64 0]) 2 16 Tryz.underlying50 hi0 hz0 hz1 hz2 rfl (by decide) _ _ _ rfl (World.ownsRow.alloc Ho.out _) ⟨W1.heap.size, 0, none⟩ 1 1 [.int .i64 a, .int .i64 b] rfl rfl (World.news_of_block (blk_new _ _)) (two_int _ _) (by decide) (by unfold maxLen; omega) (by omega) (by have := hsz1.out; simp; omega) (W1.heap.size + 1) (by simp) ?_; intro g cap w2 hown2 hgrow hat hlt2; have Hown2 := Lib.hid (OwnE.push (r := (a, b)) hown2); have Hb3 := Lib.hid ((Hb2.out.alloc (Nat.le_trans hsz (by have := hsz1.out; omega)) _).grown hgrow (by have := hsz1.out; simp; omega) (fun k hk => (World.ownsRow.lt Ho.out k hk).1)); clear hown2 hgrow)
              refine ⟨⟨acc ++ [(a, b)], n2 + 1, by omega, by simp; omega, by go_num, Hb3, Hown2, Hf2⟩, by simp [intOf]; omega⟩
            · have Hf := Lib.hid (fin_none hp.out hTR (by rw [hDl]; omega) (by rw [get_of hm hlt9]; intro e; exact h44 ((byte_eq (n := 44) (by decide)).2 (Option.some.inj e))))
              have h44b : (((s[n2]'hlt9).toNat : Int) == 44) = false := by simpa using h44
              clear h44
              clear hs1 hs2 hr hp ho hT hC h58 hTR hDl hml hk hC1 hC2 hdr hr2 hm hn2 hnx
              go_wp2_with fail
              refine (N.out _).mono ?_
              rintro e w' ⟨rfl, rfl⟩
              go_wp2_with fail
              refine (N2.out _).mono ?_
              rintro e w' ⟨rfl, rfl⟩
              go_upto_region 11 with fail
              generalize (wr.alloc (.cells #[.int .i64 a, .int .i64 b] 73)) = W1 at Hb2 Hblk Ho hsz1 ⊢
              have k0 : W1.cell? ⟨wr.heap.size, 0, none⟩ = some (.int .i64 a) := cell_blk Hblk.out 0
              have k1 : W1.cell? ⟨wr.heap.size, 1, none⟩ = some (.int .i64 b) := cell_blk Hblk.out 1
              go_wp2_with (at_builtin; refine wpList_append_lies _ rfl _ _ 50 rfl w.heap.size 73 i0 (.agg #[.int .i64 0, .int .i64 0]) 2 16 Tryz.underlying50 hi0 hz0 hz1 hz2 rfl (by decide) _ _ _ rfl (World.ownsRow.alloc Ho.out _) ⟨W1.heap.size, 0, none⟩ 1 1 [.int .i64 a, .int .i64 b] rfl rfl (World.news_of_block (blk_new _ _)) (two_int _ _) (by decide) (by unfold maxLen; omega) (by omega) (by have := hsz1.out; simp; omega) (W1.heap.size + 1) (by simp) ?_; intro g cap w2 hown2 hgrow hat hlt2; have Hown2 := Lib.hid (OwnE.push (r := (a, b)) hown2); have Hb3 := Lib.hid ((Hb2.out.alloc (Nat.le_trans hsz (by have := hsz1.out; omega)) _).grown hgrow (by have := hsz1.out; simp; omega) (fun k hk => (World.ownsRow.lt Ho.out k hk).1)); clear hown2 hgrow)
              go_ret2
              rw [Hf.out]
              exact ⟨rfl, Hb3.out⟩
      · have hno58 : ∀ h : nx < s.size, (((s[nx]'h).toNat : Int) == 58) = false := by
          intro h
          rw [beq_eq_false_iff_ne]
          intro e
          apply h58
          rw [get_of hnx h]
          exact congrArg some ((byte_eq (n := 58) (by decide)).1 e)
        have hTR := hT h58
        have hm : nx = i + k := hnx
        have hml := hTR.1
        rw [hDl] at hml
        have Hb2 := Lib.hid (hb.out.alloc hsz (.cells #[.int .i64 a, .int .i64 a] 73))
        have Hblk := Lib.hid (blk_new wr (.cells #[.int .i64 a, .int .i64 a] 73))
        have Ho := Lib.hid (World.ownsRow.alloc ho.out (.cells #[.int .i64 a, .int .i64 a] 73))
        have hsz1 : Hid ((wr.alloc (.cells #[.int .i64 a, .int .i64 a] 73)).heap.size = wr.heap.size + 1) := Lib.hid (by rw [size_new])
        by_cases hend : nx = s.size
        · have Hf := Lib.hid (fin_one hp.out hTR (by rw [hDl]; omega))
          have hendb : ((nx : Int) == (s.size : Int)) = true := by simp [hend]
          have hge : s.size ≤ nx := by omega
          have hle9 : nx ≤ s.size := by omega
          clear hend
          clear hs1 hs2 hr hp ho hT hC h58 hTR hDl hml hk hm hnx
          go_wp2_with fail
          refine (N.out _).mono ?_
          rintro e w' ⟨rfl, rfl⟩
          go_upto_region 11 with fail
          generalize (wr.alloc (.cells #[.int .i64 a, .int .i64 a] 73)) = W1 at Hb2 Hblk Ho hsz1 ⊢
          have k0 : W1.cell? ⟨wr.heap.size, 0, none⟩ = some (.int .i64 a) := cell_blk Hblk.out 0
          have k1 : W1.cell? ⟨wr.heap.size, 1, none⟩ = some (.int .i64 a) := cell_blk Hblk.out 1
          go_wp2_with (at_builtin; refine wpList_append_lies _ rfl _ _ 50 rfl w.heap.size 73 i0 (.agg #[.int .i64 0, .int .i64 0]) 2 16 Tryz.underlying50 hi0 hz0 hz1 hz2 rfl (by decide) _ _ _ rfl (World.ownsRow.alloc Ho.out _) ⟨W1.heap.size, 0, none⟩ 1 1 [.int .i64 a, .int .i64 a] rfl rfl (World.news_of_block (blk_new _ _)) (two_int _ _) (by decide) (by unfold maxLen; omega) (by omega) (by have := hsz1.out; simp; omega) (W1.heap.size + 1) (by simp) ?_; intro g cap w2 hown2 hgrow hat hlt2; have Hown2 := Lib.hid (OwnE.push (r := (a, a)) hown2); have Hb3 := Lib.hid ((Hb2.out.alloc (Nat.le_trans hsz (by have := hsz1.out; omega)) _).grown hgrow (by have := hsz1.out; simp; omega) (fun k hk => (World.ownsRow.lt Ho.out k hk).1)); clear hown2 hgrow)
          go_ret2
          rw [Hf.out]
          exact ⟨_, rfl, Hown2.out, Hb3.out⟩
        · have hlt9 : nx < s.size := by omega
          have hendb : ((nx : Int) == (s.size : Int)) = false := by rw [beq_eq_false_iff_ne]; omega
          clear hend
          have hno := hno58 hlt9
          by_cases h44 : ((s[nx]'hlt9).toNat : Int) = 44
          · have h44' : (s.data.toList.drop i)[k]? = some 44 := by rw [get_of hm hlt9]; exact congrArg some ((byte_eq (n := 44) (by decide)).1 h44)
            have Hf := fin_more hp.out hTR h44'
            rw [List.drop_drop, show i + (k + 1) = nx + 1 by omega] at Hf
            have Hf2 := Lib.hid Hf
            have hii : i ≤ nx := by omega
            clear Hf h44'
            clear hs1 hs2 hr hp ho hT hC h58 hTR hDl hml hk hm hnx
            go_wp2_with fail
            refine (N.out _).mono ?_
            rintro e w' ⟨rfl, rfl⟩
            go_upto_region 11 with fail
            generalize (wr.alloc (.cells #[.int .i64 a, .int .i64 a] 73)) = W1 at Hb2 Hblk Ho hsz1 ⊢
            have k0 : W1.cell? ⟨wr.heap.size, 0, none⟩ = some (.int .i64 a) := cell_blk Hblk.out 0
            have k1 : W1.cell? ⟨wr.heap.size, 1, none⟩ = some (.int .i64 a) := cell_blk Hblk.out 1
            go_wp2_with (at_builtin; refine wpList_append_lies _ rfl _ _ 50 rfl w.heap.size 73 i0 (.agg #[.int .i64 0, .int .i64 0]) 2 16 Tryz.underlying50 hi0 hz0 hz1 hz2 rfl (by decide) _ _ _ rfl (World.ownsRow.alloc Ho.out _) ⟨W1.heap.size, 0, none⟩ 1 1 [.int .i64 a, .int .i64 a] rfl rfl (World.news_of_block (blk_new _ _)) (two_int _ _) (by decide) (by unfold maxLen; omega) (by omega) (by have := hsz1.out; simp; omega) (W1.heap.size + 1) (by simp) ?_; intro g cap w2 hown2 hgrow hat hlt2; have Hown2 := Lib.hid (OwnE.push (r := (a, a)) hown2); have Hb3 := Lib.hid ((Hb2.out.alloc (Nat.le_trans hsz (by have := hsz1.out; omega)) _).grown hgrow (by have := hsz1.out; simp; omega) (fun k hk => (World.ownsRow.lt Ho.out k hk).1)); clear hown2 hgrow)
            refine ⟨⟨acc ++ [(a, a)], nx + 1, by omega, by simp; omega, by go_num, Hb3, Hown2, Hf2⟩, by simp [intOf]; omega⟩
          · have Hf := Lib.hid (fin_none hp.out hTR (by rw [hDl]; omega) (by rw [get_of hm hlt9]; intro e; exact h44 ((byte_eq (n := 44) (by decide)).2 (Option.some.inj e))))
            have h44b : (((s[nx]'hlt9).toNat : Int) == 44) = false := by simpa using h44
            clear h44
            clear hs1 hs2 hr hp ho hT hC h58 hTR hDl hml hk hm hnx
            go_wp2_with fail
            refine (N.out _).mono ?_
            rintro e w' ⟨rfl, rfl⟩
            go_upto_region 11 with fail
            generalize (wr.alloc (.cells #[.int .i64 a, .int .i64 a] 73)) = W1 at Hb2 Hblk Ho hsz1 ⊢
            have k0 : W1.cell? ⟨wr.heap.size, 0, none⟩ = some (.int .i64 a) := cell_blk Hblk.out 0
            have k1 : W1.cell? ⟨wr.heap.size, 1, none⟩ = some (.int .i64 a) := cell_blk Hblk.out 1
            go_wp2_with (at_builtin; refine wpList_append_lies _ rfl _ _ 50 rfl w.heap.size 73 i0 (.agg #[.int .i64 0, .int .i64 0]) 2 16 Tryz.underlying50 hi0 hz0 hz1 hz2 rfl (by decide) _ _ _ rfl (World.ownsRow.alloc Ho.out _) ⟨W1.heap.size, 0, none⟩ 1 1 [.int .i64 a, .int .i64 a] rfl rfl (World.news_of_block (blk_new _ _)) (two_int _ _) (by decide) (by unfold maxLen; omega) (by omega) (by have := hsz1.out; simp; omega) (W1.heap.size + 1) (by simp) ?_; intro g cap w2 hown2 hgrow hat hlt2; have Hown2 := Lib.hid (OwnE.push (r := (a, a)) hown2); have Hb3 := Lib.hid ((Hb2.out.alloc (Nat.le_trans hsz (by have := hsz1.out; omega)) _).grown hgrow (by have := hsz1.out; simp; omega) (fun k hk => (World.ownsRow.lt Ho.out k hk).1)); clear hown2 hgrow)
            go_ret2
            rw [Hf.out]
            exact ⟨rfl, Hb3.out⟩
end Go.Proofs.YtkgngahmpafdhaaGreatDoor.SP
