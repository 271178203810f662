/- What span.Text returns, for any numbers from 0 to 1000000. Conditions: that the slice reads as the numbers, their number, and that the library's table of powers lies as its text lays it. -/
import Derived.Test.YtdcdflhglcpleaaDoorSpanTextPlain
import Derived.Test.YtdcdflhglcpleaaDoorSpanPick
import Derived.Test.YtdcdflhglcpleaaDoorBuilderS
import Derived.Lib.AppendIntMem
import Derived.Lib.LaidTab
namespace Go.Proofs.YtdcdflhglcpleaaDoor.SP
open Go.RowKit Mailsack MM BU

abbrev Tab (w : World) : Prop := Lib.TabIs Tryd.prog w "internal/strconv.uint64pow10" .u64 Lib.pow10Tab
theorem itoa_nat (n : Nat) : Lib.itoa (n : Int) = Lib.decDigits n := by
  unfold Lib.itoa; rw [if_neg (by omega)]; rfl
theorem digits_len {n : Nat} (h : n ≤ 1000000) : (Lib.decDigits n).length ≤ 7 := by
  rw [Lib.decDigits_length]
  rcases Nat.lt_or_ge (Lib.nDigits n) 8 with h1 | h1
  · omega
  · exfalso
    have key : ∀ k u : Nat, k < Lib.nDigits u → 0 < k → 10 ^ k ≤ u := by
      intro k
      induction k with
      | zero => intro u _ h; omega
      | succ k ih =>
        intro u hu _
        by_cases h10 : u < 10
        · rw [Lib.nDigits_small h10] at hu; omega
        · rw [Lib.nDigits_big h10] at hu
          by_cases hk : k = 0
          · subst hk; simp; omega
          · have := ih (u / 10) (by omega) (by omega)
            rw [Nat.pow_succ]; omega
    have := key 7 n (by omega) (by decide)
    have h7 : 10 ^ 7 = 10000000 := by decide
    omega
theorem itoa_len {x : Int} (h0 : 0 ≤ x) (h1 : x ≤ 1000000) : (Lib.itoa x).length ≤ 7 := by
  obtain ⟨n, rfl⟩ : ∃ n : Nat, x = n := ⟨x.toNat, by omega⟩
  rw [itoa_nat]
  exact digits_len (by omega)

theorem follows_any (a b : Int) (w : World) (hb : b ≤ 1000000) : Calls Tryd.prog 20 #[.int .i64 a, .int .i64 b] w fun e w' => e = .returned (.bool (fol a b)) ∧ w = w' := by
  by_cases h1 : 1 ≤ a
  · by_cases h2 : a < b
    · cases h3 : (b - 1 == a)
      · have Hf := Lib.hid (show fol a b = false by unfold fol; rw [beq_eq_false_iff_ne] at h3; exact decide_eq_false (by omega))
        go_enter Tryd.func20, Tryd.ntmps20
        go_wp2
        go_ret
        rw [Hf.out]
        exact ⟨rfl, rfl⟩
      · have Hf := Lib.hid (show fol a b = true by unfold fol; rw [beq_iff_eq] at h3; exact decide_eq_true (by omega))
        go_enter Tryd.func20, Tryd.ntmps20
        go_wp2
        go_ret
        rw [Hf.out]
        exact ⟨rfl, rfl⟩
    · have Hf := Lib.hid (show fol a b = false by unfold fol; exact decide_eq_false (by omega))
      go_enter Tryd.func20, Tryd.ntmps20
      go_wp2
      go_ret
      rw [Hf.out]
      exact ⟨rfl, rfl⟩
  · have Hf := Lib.hid (show fol a b = false by unfold fol; exact decide_eq_false (by omega))
    go_enter Tryd.func20, Tryd.ntmps20
    go_wp2
    go_ret
    rw [Hf.out]
    exact ⟨rfl, rfl⟩

theorem bld_keep {B b : Nat} {l : Bs} {w w' : World} (h : Bld B b l w) (hb : Below w.heap.size w w') : Bld B b l w' := by
  rcases h with ⟨h1, v, hk, ho, hn⟩ | ⟨h1, v, hk, ho, hn⟩
  · exact .inl ⟨h1, v, blk_below hk hb (blk_lt hk), World.ownsRow.kept ho (grown_of_below hb none) (by cases v.ownBlock <;> simp), hn⟩
  · exact .inr ⟨h1, v, blk_below hk hb (blk_lt hk), World.ownsRow.kept ho (grown_of_below hb none) (by cases v.ownBlock <;> simp), hn⟩
/-- in the midst of the text -/
structure TI (w : World) (out : Bs) (wr : World) : Prop where
  bld : Bld w.heap.size w.heap.size out wr
  bel : Below w.heap.size w wr
theorem TI.keep {w wr w' : World} {out : Bs} (h : TI w out wr) (hb : Below wr.heap.size wr w') : TI w out w' := ⟨bld_keep h.bld hb, h.bel.trans (hb.mono h.bel.size)⟩
theorem ti_new (w : World) : TI w [] (w.alloc (.cells #[.pointer none, .slice none 0 0] 56)) := ⟨Lib.fresh_isBuilder 56 5 w, (Below.refl _ _).alloc (Nat.le_refl _) _⟩
theorem ti_byte {w wr : World} {out : Bs} (h : TI w out wr) (hl : out.length ≤ 100000000) (c : UInt8) :
    Calls Tryd.prog 21 #[.pointer (some ⟨w.heap.size, 0, none⟩), .int .u8 c.toNat] wr fun e w' => e = .returned .nilIface ∧ TI w (out ++ [c]) w' :=
  (writeByte_any w.heap.size w.heap.size out c wr h.bld (by omega) h.bel.size).mono fun _ _ k => ⟨k.1, k.2.1, h.bel.trans k.2.2⟩
theorem ti_str {w wr : World} {out : Bs} (h : TI w out wr) (hl : out.length ≤ 100000000) (t : Bs) (ht : t.length ≤ 100000000) :
    Calls Tryd.prog 22 #[.pointer (some ⟨w.heap.size, 0, none⟩), .string ⟨t.toArray⟩] wr fun e w' => e = .returned (.tuple #[.int .i64 t.length, .nilIface]) ∧ TI w (out ++ t) w' :=
  (writeString_any w.heap.size w.heap.size out ⟨t.toArray⟩ wr h.bld (by show out.length + t.length ≤ _; omega) h.bel.size).mono fun _ _ k => ⟨k.1, k.2.1, h.bel.trans k.2.2⟩
theorem ti_itoa {w wr : World} {out : Bs} (h : TI w out wr) (ht : Tab w) {x : Int} (h0 : 0 ≤ x) (h1 : x ≤ 1000000) :
    Calls Tryd.prog 23 #[.int .i64 x] wr fun e w' => e = .returned (.string ⟨(Lib.itoa x).toArray⟩) ∧ TI w out w' := by
  refine (Tryd.strconv_Itoa x (by omega) (by omega) _ (Lib.tabBelow_of_tabIs ht wr h.bel)).mono ?_
  rintro e w2 ⟨rfl, k2, os2, hw2⟩
  exact ⟨rfl, h.keep (by subst hw2; exact Lib.below_grow _ _ (Nat.le_refl _) _ _)⟩

theorem drop_cons' {l : List Int} {i : Nat} {x : Int} (h : l[i]? = some x) : l.drop i = x :: l.drop (i + 1) := by
  obtain ⟨h1, h2⟩ := List.getElem?_eq_some_iff.1 h
  rw [← h2, List.getElem_cons_drop]
/-- a part more -/
theorem text_step {l : List Int} {i k : Nat} {x : Int} {out : Bs} {f : Bool} (hx : l[i]? = some x) (hk : runLen x (l.drop (i + 1)) = k) (hf : (i == 0) = f)
    (ht : textS l = out ++ textR (l.length - i) (i == 0) (l.drop i)) : textS l = (out ++ (if f then [] else [44]) ++ partT x k) ++ textR (l.length - (i + 1 + k)) (i + 1 + k == 0) (l.drop (i + 1 + k)) := by
  have hi : i < l.length := (List.getElem?_eq_some_iff.1 hx).1
  rw [ht, drop_cons' hx, show l.length - i = (l.length - i - 1) + 1 by omega, textR, hk, List.drop_drop, show i + 1 + k = i + 1 + k from rfl, hf]
  rw [show (i + 1 + k == 0) = false by simp]
  rw [textR_fuel (l.length - i - 1) (l.length - (i + 1 + k)) false (l.drop (i + 1 + k)) (by simp; omega) (by simp)]
  simp

set_option maxHeartbeats 4000000 in
theorem text_any (v : Value) (l : List Int) (w : World) (hv : RdI w w.heap.size v l) (hlen : l.length ≤ 100000) (hin : ∀ n ∈ l, 0 ≤ n ∧ n ≤ 1000000) (htab : Tab w) :
    Calls Tryd.prog 15 #[v] w fun e w' => e = .returned (strV (textS l)) ∧ Below w.heap.size w w' := by
  obtain ⟨A, c, rfl, hc, hcell⟩ := hv
  have Hcell := Lib.hid hcell
  have Hin := Lib.hid hin
  have Htab := Lib.hid htab
  have Hnew := Lib.hid (ti_new w)
  clear hcell hin htab
  go_enter Tryd.func15, Tryd.ntmps15
  go_wp2
  go_loopw [4] (fun iv wr => ∃ (i : Nat) (out : Bs), i ≤ l.length ∧ iv = .int .i64 (i : Int) ∧ out.length ≤ 20 * i ∧ Hid (TI w out wr) ∧ Hid (textS l = out ++ textR (l.length - i) (i == 0) (l.drop i))) (fun iv _ => l.length - (intOf iv).toNat)
  case atStart => exact ⟨0, [], Nat.zero_le _, rfl, Nat.le_refl _, Hnew, Lib.hid (by simp [textS])⟩
  case round =>
    obtain ⟨i, out, hi, rfl, hout, hti, htx⟩ := hrel
    clear Hnew
    by_cases hlt : i < l.length
    · obtain ⟨b, off, rfl, hbB, hcs⟩ := Hcell.out (by omega)
      have Hcs := Lib.hid hcs
      clear hcs Hcell
      obtain ⟨x, hx⟩ : ∃ x, l[i]? = some x := ⟨_, List.getElem?_eq_getElem hlt⟩
      have hxin := Hin.out x (List.mem_of_getElem? hx)
      have Hx := Lib.hid hx
      have hdl : (l.drop (i + 1)).length = l.length - (i + 1) := by simp
      clear hx
      go_wp2
      go_loopw [5] (fun ev ws => ∃ e : Nat, i + 1 ≤ e ∧ e ≤ l.length ∧ ev = .int .i64 (e : Int) ∧ Hid (TI w out ws) ∧ Hid (∀ j a b, j < e - (i + 1) → (x :: l.drop (i + 1))[j]? = some a → (x :: l.drop (i + 1))[j + 1]? = some b → fol a b = true)) (fun ev _ => l.length - (intOf ev).toNat)
      case atStart => exact ⟨i + 1, Nat.le_refl _, hlt, by go_num, hti, Lib.hid (fun j a b hj => by omega)⟩
      case round =>
        obtain ⟨e, he1, he2, rfl, hts, hch⟩ := hrel
        clear hti
        by_cases hle : e < l.length
        · obtain ⟨p, hp⟩ : ∃ p, l[e - 1]? = some p := ⟨_, List.getElem?_eq_getElem (by omega)⟩
          obtain ⟨q, hq⟩ : ∃ q, l[e]? = some q := ⟨_, List.getElem?_eq_getElem hle⟩
          have hpi := Hin.out p (List.mem_of_getElem? hp)
          have hqi := Hin.out q (List.mem_of_getElem? hq)
          have d1 := Lib.hid ((hts.out.bel.cell (p := ⟨b, off + (e - 1), none⟩) hbB).trans (Hcs.out _ _ hp))
          have d2 := Lib.hid ((hts.out.bel.cell (p := ⟨b, off + e, none⟩) hbB).trans (Hcs.out _ _ hq))
          have Hp : Hid ((x :: l.drop (i + 1))[e - (i + 1)]? = some p) := Lib.hid (by rw [← drop_cons' Hx.out, List.getElem?_drop, show i + (e - (i + 1)) = e - 1 by omega]; exact hp)
          have Hq : Hid ((x :: l.drop (i + 1))[e - (i + 1) + 1]? = some q) := Lib.hid (by rw [← drop_cons' Hx.out, List.getElem?_drop, show i + (e - (i + 1) + 1) = e by omega]; exact hq)
          have HB := Lib.hid (Nat.lt_of_lt_of_le hbB hts.out.bel.size)
          clear hp hq
          go_upto_region 5 with fail
          refine RG.wp_region_det (fun W => Hid (Below wr.heap.size wr W)) (by kernel_rfl) (by kernel_rfl) (Lib.hid (Below.refl _ _).drew) ?_
          iterate 14
            apply RG.wpDet_cons
            · intro w9 hw9
              have k0 := (hw9.out.cell (p := ⟨b, off + (e - 1), none⟩) HB.out).trans d1.out
              have k1 := (hw9.out.cell (p := ⟨b, off + e, none⟩) HB.out).trans d2.out
              repeat go_step
              with_reducible refine RG.only_mk ?_
              exact hw9
            · rfl
          apply RG.wpDet_cons
          · intro w9 hw9
            repeat go_step
            refine (follows_any p q _ hqi.2).mono ?_
            rintro e w10 ⟨rfl, rfl⟩
            simp only []
            repeat go_step
            with_reducible refine RG.only_mk ?_
            exact hw9
          · rfl
          apply RG.wpDet_cons
          · intro w9 hw9
            repeat go_step
            with_reducible refine RG.only_mk ?_
            exact hw9
          · rfl
          refine RG.wpDet_nil (fun w9 hw9 => ?_)
          have hts9 := Lib.hid (hts.out.keep hw9.out)
          clear hw9 d1 d2
          cases hfo : fol p q
          · have Hrun := Lib.hid (run_exit (e - (i + 1)) x (l.drop (i + 1)) hch.out (by rw [hdl]; omega) (.inr ⟨p, q, Hp.out, Hq.out, hfo⟩))
            have hyl : l[e - 1]? = some (x + ((e - (i + 1) : Nat) : Int)) := by
              have := run_last x (l.drop (i + 1))
              rw [Hrun.out, ← drop_cons' Hx.out, List.getElem?_drop, show i + (e - (i + 1)) = e - 1 by omega] at this
              exact this
            have hyin := Hin.out _ (List.mem_of_getElem? hyl)
            have hlx := itoa_len hxin.1 hxin.2
            have hly := itoa_len hyin.1 hyin.2
            have Hcx := Lib.hid (fun w' (h : Below w.heap.size w w') => (h.cell (p := ⟨b, off + i, none⟩) hbB).trans (Hcs.out _ _ Hx.out))
            have Hcy := Lib.hid (fun w' (h : Below w.heap.size w w') => (h.cell (p := ⟨b, off + (e - 1), none⟩) hbB).trans (Hcs.out _ _ hyl))
            clear hyl
            rcases Nat.eq_zero_or_pos i with hi0 | hi0
            · have Htxt := text_step (f := true) Hx.out Hrun.out (by rw [hi0]; rfl) htx.out
              rw [show i + 1 + (e - (i + 1)) = e by omega] at Htxt
              rcases Nat.lt_or_ge (i + 1) e with hk1 | hk1
              · rw [show partT x (e - (i + 1)) = Lib.itoa x ++ 58 :: Lib.itoa (x + ((e - (i + 1) : Nat) : Int)) by unfold partT; rw [if_neg (by omega)]] at Htxt
                have Htxt := Lib.hid Htxt
                generalize x + ((e - (i + 1) : Nat) : Int) = y at *
                have ca := Hcx.out _ hts9.out.bel
                rw [hi0, Nat.add_zero] at ca
                go_wp2_with fail
                refine (ti_itoa hts9.out Htab.out hxin.1 hxin.2).mono ?_
                rintro e9 wb ⟨rfl, hb⟩
                have Hb := Lib.hid hb
                clear hb ca
                go_wp2_with fail
                refine (ti_str Hb.out (by first | omega | (simp; omega)) (Lib.itoa x) (by omega)).mono ?_
                rintro e9 wc ⟨rfl, hc9⟩
                have Hc := Lib.hid hc9
                clear hc9
                go_wp2_with fail
                refine (ti_byte Hc.out (by first | omega | (simp; omega)) 58).mono ?_
                rintro e9 wd ⟨rfl, hd⟩
                have Hd := Lib.hid hd
                have cd := Hcy.out wd hd.bel
                clear hd
                go_wp2_with fail
                refine (ti_itoa Hd.out Htab.out hyin.1 hyin.2).mono ?_
                rintro e9 we ⟨rfl, he9⟩
                have He := Lib.hid he9
                clear he9 cd
                go_wp2_with fail
                refine (ti_str He.out (by first | omega | (simp; omega)) (Lib.itoa y) (by omega)).mono ?_
                rintro e9 wf ⟨rfl, hf9⟩
                have Hf9 := Lib.hid hf9
                clear hf9
                go_wp2
                refine ⟨⟨e, ((out ++ Lib.itoa x) ++ [58] ++ Lib.itoa y), he2, rfl, by simp; omega, Hf9, Lib.hid ?_⟩, by simp [intOf]; omega⟩
                rw [Htxt.out]
                simp
              · rw [show partT x (e - (i + 1)) = Lib.itoa x by unfold partT; rw [if_pos (by omega)]; simp] at Htxt
                have Htxt := Lib.hid Htxt
                have ca := Hcx.out _ hts9.out.bel
                rw [hi0, Nat.add_zero] at ca
                go_wp2_with fail
                refine (ti_itoa hts9.out Htab.out hxin.1 hxin.2).mono ?_
                rintro e9 wb ⟨rfl, hb⟩
                have Hb := Lib.hid hb
                clear hb ca
                go_wp2_with fail
                refine (ti_str Hb.out (by first | omega | (simp; omega)) (Lib.itoa x) (by omega)).mono ?_
                rintro e9 wc ⟨rfl, hc9⟩
                have Hc := Lib.hid hc9
                clear hc9
                go_wp2
                refine ⟨⟨e, (out ++ Lib.itoa x), he2, rfl, by simp; omega, Hc, Lib.hid ?_⟩, by simp [intOf]; omega⟩
                rw [Htxt.out]
                simp
            · have Htxt := text_step (f := false) Hx.out Hrun.out (by rw [beq_eq_false_iff_ne]; omega) htx.out
              rw [show i + 1 + (e - (i + 1)) = e by omega] at Htxt
              rcases Nat.lt_or_ge (i + 1) e with hk1 | hk1
              · rw [show partT x (e - (i + 1)) = Lib.itoa x ++ 58 :: Lib.itoa (x + ((e - (i + 1) : Nat) : Int)) by unfold partT; rw [if_neg (by omega)]] at Htxt
                have Htxt := Lib.hid Htxt
                generalize x + ((e - (i + 1) : Nat) : Int) = y at *
                go_wp2_with fail
                refine (ti_byte hts9.out (by omega) 44).mono ?_
                rintro e9 wa ⟨rfl, ha⟩
                have Ha := Lib.hid ha
                have ca := Hcx.out wa ha.bel
                clear ha
                go_wp2_with fail
                refine (ti_itoa Ha.out Htab.out hxin.1 hxin.2).mono ?_
                rintro e9 wb ⟨rfl, hb⟩
                have Hb := Lib.hid hb
                clear hb ca
                go_wp2_with fail
                refine (ti_str Hb.out (by first | omega | (simp; omega)) (Lib.itoa x) (by omega)).mono ?_
                rintro e9 wc ⟨rfl, hc9⟩
                have Hc := Lib.hid hc9
                clear hc9
                go_wp2_with fail
                refine (ti_byte Hc.out (by first | omega | (simp; omega)) 58).mono ?_
                rintro e9 wd ⟨rfl, hd⟩
                have Hd := Lib.hid hd
                have cd := Hcy.out wd hd.bel
                clear hd
                go_wp2_with fail
                refine (ti_itoa Hd.out Htab.out hyin.1 hyin.2).mono ?_
                rintro e9 we ⟨rfl, he9⟩
                have He := Lib.hid he9
                clear he9 cd
                go_wp2_with fail
                refine (ti_str He.out (by first | omega | (simp; omega)) (Lib.itoa y) (by omega)).mono ?_
                rintro e9 wf ⟨rfl, hf9⟩
                have Hf9 := Lib.hid hf9
                clear hf9
                go_wp2
                refine ⟨⟨e, (((out ++ [44]) ++ Lib.itoa x) ++ [58] ++ Lib.itoa y), he2, rfl, by simp; omega, Hf9, Lib.hid ?_⟩, by simp [intOf]; omega⟩
                rw [Htxt.out]
                simp
              · rw [show partT x (e - (i + 1)) = Lib.itoa x by unfold partT; rw [if_pos (by omega)]; simp] at Htxt
                have Htxt := Lib.hid Htxt
                go_wp2_with fail
                refine (ti_byte hts9.out (by omega) 44).mono ?_
                rintro e9 wa ⟨rfl, ha⟩
                have Ha := Lib.hid ha
                have ca := Hcx.out wa ha.bel
                clear ha
                go_wp2_with fail
                refine (ti_itoa Ha.out Htab.out hxin.1 hxin.2).mono ?_
                rintro e9 wb ⟨rfl, hb⟩
                have Hb := Lib.hid hb
                clear hb ca
                go_wp2_with fail
                refine (ti_str Hb.out (by first | omega | (simp; omega)) (Lib.itoa x) (by omega)).mono ?_
                rintro e9 wc ⟨rfl, hc9⟩
                have Hc := Lib.hid hc9
                clear hc9
                go_wp2
                refine ⟨⟨e, ((out ++ [44]) ++ Lib.itoa x), he2, rfl, by simp; omega, Hc, Lib.hid ?_⟩, by simp [intOf]; omega⟩
                rw [Htxt.out]
                simp
          · go_wp2
            go_roundw
            case rel =>
              refine ⟨e + 1, by omega, by omega, by go_num, hts9, Lib.hid ?_⟩
              intro j a b hj h1 h2
              by_cases hj2 : j < e - (i + 1)
              · exact hch.out j a b hj2 h1 h2
              · obtain rfl : j = e - (i + 1) := by omega
                rw [Hp.out] at h1
                rw [Hq.out] at h2
                injection h1 with h1; injection h2 with h2
                rw [← h1, ← h2]; exact hfo
            case measure => simp [intOf]; omega
        · have Hrun := Lib.hid (run_exit (e - (i + 1)) x (l.drop (i + 1)) hch.out (by rw [hdl]; omega) (.inl (by rw [hdl]; omega)))
          go_upto_region 5 with fail
          refine RG.wp_region_det (fun W => Hid (Below wr.heap.size wr W)) (by kernel_rfl) (by kernel_rfl) (Lib.hid (Below.refl _ _).drew) ?_
          iterate 16
            apply RG.wpDet_cons
            · intro w9 hw9
              repeat go_step
              with_reducible refine RG.only_mk ?_
              exact hw9
            · rfl
          refine RG.wpDet_nil (fun w9 hw9 => ?_)
          have hts9 := Lib.hid (hts.out.keep hw9.out)
          clear hw9
          have hyl : l[e - 1]? = some (x + ((e - (i + 1) : Nat) : Int)) := by
            have := run_last x (l.drop (i + 1))
            rw [Hrun.out, ← drop_cons' Hx.out, List.getElem?_drop, show i + (e - (i + 1)) = e - 1 by omega] at this
            exact this
          have hyin := Hin.out _ (List.mem_of_getElem? hyl)
          have hlx := itoa_len hxin.1 hxin.2
          have hly := itoa_len hyin.1 hyin.2
          have Hcx := Lib.hid (fun w' (h : Below w.heap.size w w') => (h.cell (p := ⟨b, off + i, none⟩) hbB).trans (Hcs.out _ _ Hx.out))
          have Hcy := Lib.hid (fun w' (h : Below w.heap.size w w') => (h.cell (p := ⟨b, off + (e - 1), none⟩) hbB).trans (Hcs.out _ _ hyl))
          clear hyl
          rcases Nat.eq_zero_or_pos i with hi0 | hi0
          · have Htxt := text_step (f := true) Hx.out Hrun.out (by rw [hi0]; rfl) htx.out
            rw [show i + 1 + (e - (i + 1)) = e by omega] at Htxt
            rcases Nat.lt_or_ge (i + 1) e with hk1 | hk1
            · rw [show partT x (e - (i + 1)) = Lib.itoa x ++ 58 :: Lib.itoa (x + ((e - (i + 1) : Nat) : Int)) by unfold partT; rw [if_neg (by omega)]] at Htxt
              have Htxt := Lib.hid Htxt
              generalize x + ((e - (i + 1) : Nat) : Int) = y at *
              have ca := Hcx.out _ hts9.out.bel
              rw [hi0, Nat.add_zero] at ca
              go_wp2_with fail
              refine (ti_itoa hts9.out Htab.out hxin.1 hxin.2).mono ?_
              rintro e9 wb ⟨rfl, hb⟩
              have Hb := Lib.hid hb
              clear hb ca
              go_wp2_with fail
              refine (ti_str Hb.out (by first | omega | (simp; omega)) (Lib.itoa x) (by omega)).mono ?_
              rintro e9 wc ⟨rfl, hc9⟩
              have Hc := Lib.hid hc9
              clear hc9
              go_wp2_with fail
              refine (ti_byte Hc.out (by first | omega | (simp; omega)) 58).mono ?_
              rintro e9 wd ⟨rfl, hd⟩
              have Hd := Lib.hid hd
              have cd := Hcy.out wd hd.bel
              clear hd
              go_wp2_with fail
              refine (ti_itoa Hd.out Htab.out hyin.1 hyin.2).mono ?_
              rintro e9 we ⟨rfl, he9⟩
              have He := Lib.hid he9
              clear he9 cd
              go_wp2_with fail
              refine (ti_str He.out (by first | omega | (simp; omega)) (Lib.itoa y) (by omega)).mono ?_
              rintro e9 wf ⟨rfl, hf9⟩
              have Hf9 := Lib.hid hf9
              clear hf9
              go_wp2
              refine ⟨⟨e, ((out ++ Lib.itoa x) ++ [58] ++ Lib.itoa y), he2, rfl, by simp; omega, Hf9, Lib.hid ?_⟩, by simp [intOf]; omega⟩
              rw [Htxt.out]
              simp
            · rw [show partT x (e - (i + 1)) = Lib.itoa x by unfold partT; rw [if_pos (by omega)]; simp] at Htxt
              have Htxt := Lib.hid Htxt
              have ca := Hcx.out _ hts9.out.bel
              rw [hi0, Nat.add_zero] at ca
              go_wp2_with fail
              refine (ti_itoa hts9.out Htab.out hxin.1 hxin.2).mono ?_
              rintro e9 wb ⟨rfl, hb⟩
              have Hb := Lib.hid hb
              clear hb ca
              go_wp2_with fail
              refine (ti_str Hb.out (by first | omega | (simp; omega)) (Lib.itoa x) (by omega)).mono ?_
              rintro e9 wc ⟨rfl, hc9⟩
              have Hc := Lib.hid hc9
              clear hc9
              go_wp2
              refine ⟨⟨e, (out ++ Lib.itoa x), he2, rfl, by simp; omega, Hc, Lib.hid ?_⟩, by simp [intOf]; omega⟩
              rw [Htxt.out]
              simp
          · have Htxt := text_step (f := false) Hx.out Hrun.out (by rw [beq_eq_false_iff_ne]; omega) htx.out
            rw [show i + 1 + (e - (i + 1)) = e by omega] at Htxt
            rcases Nat.lt_or_ge (i + 1) e with hk1 | hk1
            · rw [show partT x (e - (i + 1)) = Lib.itoa x ++ 58 :: Lib.itoa (x + ((e - (i + 1) : Nat) : Int)) by unfold partT; rw [if_neg (by omega)]] at Htxt
              have Htxt := Lib.hid Htxt
              generalize x + ((e - (i + 1) : Nat) : Int) = y at *
              go_wp2_with fail
              refine (ti_byte hts9.out (by omega) 44).mono ?_
              rintro e9 wa ⟨rfl, ha⟩
              have Ha := Lib.hid ha
              have ca := Hcx.out wa ha.bel
              clear ha
              go_wp2_with fail
              refine (ti_itoa Ha.out Htab.out hxin.1 hxin.2).mono ?_
              rintro e9 wb ⟨rfl, hb⟩
              have Hb := Lib.hid hb
              clear hb ca
              go_wp2_with fail
              refine (ti_str Hb.out (by first | omega | (simp; omega)) (Lib.itoa x) (by omega)).mono ?_
              rintro e9 wc ⟨rfl, hc9⟩
              have Hc := Lib.hid hc9
              clear hc9
              go_wp2_with fail
              refine (ti_byte Hc.out (by first | omega | (simp; omega)) 58).mono ?_
              rintro e9 wd ⟨rfl, hd⟩
              have Hd := Lib.hid hd
              have cd := Hcy.out wd hd.bel
              clear hd
              go_wp2_with fail
              refine (ti_itoa Hd.out Htab.out hyin.1 hyin.2).mono ?_
              rintro e9 we ⟨rfl, he9⟩
              have He := Lib.hid he9
              clear he9 cd
              go_wp2_with fail
              refine (ti_str He.out (by first | omega | (simp; omega)) (Lib.itoa y) (by omega)).mono ?_
              rintro e9 wf ⟨rfl, hf9⟩
              have Hf9 := Lib.hid hf9
              clear hf9
              go_wp2
              refine ⟨⟨e, (((out ++ [44]) ++ Lib.itoa x) ++ [58] ++ Lib.itoa y), he2, rfl, by simp; omega, Hf9, Lib.hid ?_⟩, by simp [intOf]; omega⟩
              rw [Htxt.out]
              simp
            · rw [show partT x (e - (i + 1)) = Lib.itoa x by unfold partT; rw [if_pos (by omega)]; simp] at Htxt
              have Htxt := Lib.hid Htxt
              go_wp2_with fail
              refine (ti_byte hts9.out (by omega) 44).mono ?_
              rintro e9 wa ⟨rfl, ha⟩
              have Ha := Lib.hid ha
              have ca := Hcx.out wa ha.bel
              clear ha
              go_wp2_with fail
              refine (ti_itoa Ha.out Htab.out hxin.1 hxin.2).mono ?_
              rintro e9 wb ⟨rfl, hb⟩
              have Hb := Lib.hid hb
              clear hb ca
              go_wp2_with fail
              refine (ti_str Hb.out (by first | omega | (simp; omega)) (Lib.itoa x) (by omega)).mono ?_
              rintro e9 wc ⟨rfl, hc9⟩
              have Hc := Lib.hid hc9
              clear hc9
              go_wp2
              refine ⟨⟨e, ((out ++ [44]) ++ Lib.itoa x), he2, rfl, by simp; omega, Hc, Lib.hid ?_⟩, by simp [intOf]; omega⟩
              rw [Htxt.out]
              simp
    · obtain rfl : i = l.length := by omega
      have Hf : Hid (textS l = out) := Lib.hid (by rw [htx.out]; simp [textR])
      go_wp2_with fail
      refine (Tryd.Builder_String_any w.heap.size w.heap.size out _ hti.out.bld hti.out.bel.size).mono ?_
      rintro e w4 ⟨rfl, hb4⟩
      have HB4 := Lib.hid (hti.out.bel.trans hb4)
      clear hb4
      go_wp2
      go_ret
      refine ⟨?_, HB4.out⟩
      rw [Hf.out]
      rfl
end Go.Proofs.YtdcdflhglcpleaaDoor.SP
