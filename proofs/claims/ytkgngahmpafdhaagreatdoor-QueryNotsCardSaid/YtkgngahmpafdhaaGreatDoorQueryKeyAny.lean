/- A key of layer 20, read at any level. Conditions: lengths, and that the library's MaxLen holds some int. -/
import Derived.Test.YtkgngahmpafdhaaGreatDoorQueryKey
namespace Go.Proofs.YtkgngahmpafdhaaGreatDoor.QU
open Go.RowKit Mailsack MM PT

theorem KPost.form {q : Rg} {rb mb : Nat} {W : World} {o : Option (QKey × List Bs)} {e : Ending} {W' : World} (h : KPost q rb mb W o e W') : ∃ v b, e = .returned (.tuple #[v, .bool b]) := by
  obtain ⟨_, h⟩ := h
  cases o with
  | none => obtain ⟨v, _, h⟩ := h; exact ⟨v, _, h⟩
  | some p => obtain ⟨v, h, _⟩ := h; exact ⟨v, _, h⟩
theorem KPost.back {q : Rg} {rb mb : Nat} {W X : World} {o : Option (QKey × List Bs)} {e : Ending} {W' : World} (hk : Kp (nq rb) W X) (h : KPost q rb mb X o e W') : KPost q rb mb W o e W' := ⟨hk.trans h.1, h.2⟩
theorem kinds_uniq : ∀ i, i < 25 → ∀ j, j < 25 → (kinds.getD i (wALL, .uid)).1 = (kinds.getD j (wALL, .uid)).1 → i = j := by decide
theorem tab_len {mb hi : Nat} {W : World} {tab : List (Bs × Value)} (h : TabAt mb hi W kinds tab) : tab.length = 25 := by
  have := congrArg List.length h.keys
  simpa [kinds] using this
theorem tab_key {mb hi : Nat} {W : World} {tab : List (Bs × Value)} (h : TabAt mb hi W kinds tab) {i : Nat} {p : Bs × Value} (hp : tab[i]? = some p) : i < 25 ∧ ∃ k, kinds[i]? = some (p.1, k) := by
  have hl := tab_len h
  have hi := (List.getElem?_eq_some_iff.1 hp).1
  have h1 : (tab.map (·.1))[i]? = some p.1 := by rw [List.getElem?_map, hp]; rfl
  rw [h.keys, List.getElem?_map] at h1
  obtain ⟨q, hq, e⟩ := Option.map_eq_some_iff.1 h1
  exact ⟨by omega, q.2, by rw [hq, ← e]⟩
theorem tab_all_short {mb hi : Nat} {W : World} {tab : List (Bs × Value)} (h : TabAt mb hi W kinds tab) : ∀ p ∈ tab, p.1.length ≤ 1000000 := by
  intro p hp
  obtain ⟨i, hi⟩ := List.mem_iff_getElem?.1 hp
  obtain ⟨_, k, hk⟩ := tab_key h hi
  exact kinds_short _ (List.mem_of_getElem? hk)
theorem kinds_field : ∀ p ∈ kinds, (match p.2 with | .field nm => decide (nm.length ≤ 1000) | _ => true) = true := by decide
theorem kind_field {s nm : Bs} (h : kindOf s = some (.field nm)) : nm.length ≤ 1000 := by
  unfold kindOf at h
  obtain ⟨q, hq, e⟩ := Option.map_eq_some_iff.1 h
  have := kinds_field q (List.mem_of_find?_eq_some hq)
  rw [e] at this
  simpa using this
theorem tab_miss {mb hi : Nat} {W : World} {tab : List (Bs × Value)} (h : TabAt mb hi W kinds tab) {s : Bs} (hs : kindOf s = none) : ∀ p ∈ tab, p.1 ≠ s := by
  intro p hp e
  obtain ⟨i, hi⟩ := List.mem_iff_getElem?.1 hp
  obtain ⟨_, k, hk⟩ := tab_key h hi
  unfold kindOf at hs
  have h1 := List.find?_eq_none.1 (Option.map_eq_none_iff.1 hs) _ (List.mem_of_getElem? hk)
  simp [e] at h1
theorem tab_find {mb hi : Nat} {W : World} {tab : List (Bs × Value)} (h : TabAt mb hi W kinds tab) {s : Bs} {kd : QKind} (hs : kindOf s = some kd) : ∃ v, (s, v) ∈ tab ∧ (∀ u, (s, u) ∈ tab → u = v) ∧ MakerIs mb hi W v kd := by
  unfold kindOf at hs
  obtain ⟨q, hq, rfl⟩ := Option.map_eq_some_iff.1 hs
  have hqs : q.1 = s := by simpa using List.find?_some hq
  obtain ⟨j, hj⟩ := List.mem_iff_getElem?.1 (List.mem_of_find?_eq_some hq)
  have hj25 : j < 25 := (List.getElem?_eq_some_iff.1 hj).1
  obtain ⟨p, hp⟩ : ∃ p, tab[j]? = some p := ⟨_, List.getElem?_eq_getElem (by rw [tab_len h]; exact hj25)⟩
  obtain ⟨_, k, hk⟩ := tab_key h hp
  have hps : p.1 = s := by
    rw [hj] at hk
    injection hk with hk
    rw [← hqs, hk]
  refine ⟨p.2, by rw [← hps]; exact List.mem_of_getElem? hp, fun u hu => ?_, h.each j p q hp hj⟩
  obtain ⟨i, hi⟩ := List.mem_iff_getElem?.1 hu
  obtain ⟨hi25, k', hk'⟩ := tab_key h hi
  have : i = j := kinds_uniq i hi25 j hj25 (by rw [List.getD_eq_getElem?_getD, List.getD_eq_getElem?_getD, hk', hj]; simp [hqs])
  subst this
  rw [hp] at hi
  injection hi with hi
  rw [hi]

set_option maxHeartbeats 1000000 in
set_option maxRecDepth 100000 in
theorem key_zero (q : Rg) (rb mb hi : Nat) (m : Int) (tab : List (Bs × Value)) : KeyOK q rb mb hi m tab 0 := by
  intro W ws lv hl hE hr hs
  have hlv : 16 < lv := by omega
  have hlv2 : lv ≤ 17 := by omega
  rw [keyP_zero]
  clear hl
  cases ws with
  | nil =>
    have E1 := Lib.hid (word_none rb mb W hr)
    clear hE hr
    go_enter Tryz.func10, Tryz.ntmps10
    go_wp2_with fail
    refine E1.out.mono ?_
    rintro e w2 ⟨rfl, rfl⟩
    go_wp2
    go_ret2
    exact ⟨Kp.refl _ _, _, .inl rfl, rfl⟩
  | cons x r =>
    have E1 := Lib.hid (word_some rb mb W x r (by have := hs.tail.1; omega) hr)
    clear hE hr
    go_enter Tryz.func10, Tryz.ntmps10
    go_wp2_with fail
    refine E1.out.mono ?_
    rintro e w2 ⟨rfl, _, hk2⟩
    have HK := Lib.hid hk2
    clear hk2
    go_wp2
    go_ret2
    exact ⟨HK.out, _, .inl rfl, rfl⟩

theorem zeroMaker (w : World) : (zeroValue 57).run Tryz.prog w = .ok .nilFunc w := by kernel_rfl

set_option maxHeartbeats 4000000 in
set_option maxRecDepth 100000 in
theorem key_succ (q : Rg) (rb mb hi : Nat) (m : Int) (tab : List (Bs × Value)) (n : Nat) (IH : KeyOK q rb mb hi m tab n) : KeyOK q rb mb hi m tab (n + 1) := by
  intro W ws lv hl hE hr hs
  have hlv : lv ≤ 16 := by omega
  have Hl := Lib.hid hl
  clear hl
  cases ws with
  | nil =>
    rw [keyP_nil]
    have E1 := Lib.hid (word_none rb mb W hr)
    clear hE hr
    go_enter Tryz.func10, Tryz.ntmps10
    go_wp2_with fail
    refine E1.out.mono ?_
    rintro e w2 ⟨rfl, rfl⟩
    go_wp2
    go_ret2
    exact ⟨Kp.refl _ _, _, .inl rfl, rfl⟩
  | cons x r =>
    have E1 := Lib.hid (word_some rb mb W x r (by have := hs.tail.1; omega) hr)
    have hx := hs.head
    have hsr := hs.tail
    have hup : (upP x).length ≤ 1000000 := by unfold upP; rw [List.length_map]; omega
    have HE := Lib.hid hE
    have HU := Lib.hid (fun X => upper_any ⟨x.toArray⟩ X (by show x.length < _; omega))
    rw [show (⟨x.toArray⟩ : ByteArray).data.toList = x from rfl] at HU
    clear hE hr hs
    have hz : ∀ X : World, (zeroValue 57).run Tryz.prog X = .ok .nilFunc X := zeroMaker
    cases hkind : kindOf (upP x) with
    | none =>
      have hke : keyP (n + 1) (x :: r) = (parseS x).map fun R => (.set false R, r) := by unfold keyP; rw [hkind]
      rw [hke]
      have HN := Lib.hid (tab_miss HE.out.tab hkind)
      have HLk := Lib.hid (fun X (h : Kp q W X) => (HE.out.kept h).tab.map.miss (tab_all_short HE.out.tab) Tryz.underlying39 (hz X) hup HN.out)
      clear hke hkind
      go_enter Tryz.func10, Tryz.ntmps10
      go_wp2_with fail
      refine E1.out.mono ?_
      rintro e w2 ⟨rfl, hr2, hk2⟩
      have HK := Lib.hid hk2
      have HR := Lib.hid hr2
      obtain ⟨sv, hb2, _⟩ := hr2
      have PB := Lib.hid hb2
      clear hk2 hb2
      go_upto_region 4 with fail
      refine RG.wp_region_det (fun X => Hid (Below w2.heap.size w2 X)) (by kernel_rfl) (by kernel_rfl) (Lib.hid (Below.refl _ _).drew) ?_
      iterate 5
        apply RG.wpDet_cons
        · intro w9 hw9
          have k1 : w9.cell? ⟨rb, 1, none⟩ = some (.map (some mb)) := cell_blk (blk_below PB.out hw9.out (blk_lt PB.out)) 1
          repeat go_step
          with_reducible refine RG.only_mk ?_
          exact hw9
        · rfl
      apply RG.wpDet_cons
      · intro w9 hw9
        repeat go_step
        refine (HU.out _).mono ?_
        rintro e w10 ⟨rfl, hb10⟩
        simp only []
        repeat go_step
        with_reducible refine RG.only_mk ?_
        exact Lib.hid (hw9.out.trans (hb10.mono hw9.out.size))
      · rfl
      apply RG.wpDet_cons
      · intro w9 hw9
        have hlk := HLk.out w9 ((HK.out.widen (.inr HE.out.inr)).trans (Kp.below hw9.out))
        repeat go_step
        with_reducible refine RG.only_mk ?_
        exact hw9
      · rfl
      iterate 5
        apply RG.wpDet_cons
        · intro w9 hw9
          repeat go_step
          with_reducible refine RG.only_mk ?_
          exact hw9
        · rfl
      refine RG.wpDet_nil (fun w9 hw9 => ?_)
      have HK9 := Lib.hid (HK.out.trans (Kp.below hw9.out))
      have HR9 := Lib.hid (HR.out.kept hw9.out)
      have HE9 := Lib.hid (HE.out.kept (HK9.out.widen (.inr HE.out.inr)))
      clear hw9 HLk
      go_wp2_with fail
      refine (set_any false x hx m w9 HE9.out.max).mono ?_
      intro e w10 hpost
      have hp2 : KPost q rb mb w9 ((parseS x).map fun R => (.set false R, r)) e w10 := by
        obtain ⟨hb, h⟩ := hpost
        refine ⟨Kp.below hb, ?_⟩
        cases hp : parseS x with
        | none => rw [hp] at h; exact ⟨_, .inl rfl, h⟩
        | some R => rw [hp] at h; obtain ⟨v, h1, h2⟩ := h; exact ⟨v, h1, h2 q HE9.out.lt, HR9.out.kept hb⟩
      clear hpost
      obtain ⟨v', b', rfl⟩ := hp2.form
      have HP := Lib.hid (hp2.back HK9.out)
      clear hp2
      go_wp2
      go_ret2
      exact HP.out
    | some kd =>
      cases kd with
      | flags t m' =>
        have hke : keyP (n + 1) (x :: r) = some (.flags t m', r) := by (conv => lhs; unfold keyP); rw [hkind]
        rw [hke]
        obtain ⟨v, hmem, huniq, hmk⟩ := tab_find HE.out.tab hkind
        obtain ⟨b1, b2, rfl, g1, g2, g3, g4, h1, h2⟩ := hmk
        have G1 := Lib.hid h1
        have G2 := Lib.hid h2
        clear h1 h2
        have n1 : ¬ q.has b1 := fun e => by have := HE.out.hi; have := HE.out.low; unfold Rg.has at e; omega
        have n2 : ¬ q.has b2 := fun e => by have := HE.out.hi; have := HE.out.low; unfold Rg.has at e; omega
        have HLk := Lib.hid (fun X (h : Kp q W X) => (HE.out.kept h).tab.map.hit (tab_all_short HE.out.tab) Tryz.underlying39 hup hmem huniq)
        clear hke hkind hmem huniq
        go_enter Tryz.func10, Tryz.ntmps10
        go_wp2_with fail
        refine E1.out.mono ?_
        rintro e w2 ⟨rfl, hr2, hk2⟩
        have HK := Lib.hid hk2
        have HR := Lib.hid hr2
        obtain ⟨sv, hb2, _⟩ := hr2
        have PB := Lib.hid hb2
        clear hk2 hb2
        go_upto_region 4 with fail
        refine RG.wp_region_det (fun X => Hid (Below w2.heap.size w2 X)) (by kernel_rfl) (by kernel_rfl) (Lib.hid (Below.refl _ _).drew) ?_
        iterate 5
          apply RG.wpDet_cons
          · intro w9 hw9
            have k1 : w9.cell? ⟨rb, 1, none⟩ = some (.map (some mb)) := cell_blk (blk_below PB.out hw9.out (blk_lt PB.out)) 1
            repeat go_step
            with_reducible refine RG.only_mk ?_
            exact hw9
          · rfl
        apply RG.wpDet_cons
        · intro w9 hw9
          repeat go_step
          refine (HU.out _).mono ?_
          rintro e w10 ⟨rfl, hb10⟩
          simp only []
          repeat go_step
          with_reducible refine RG.only_mk ?_
          exact Lib.hid (hw9.out.trans (hb10.mono hw9.out.size))
        · rfl
        apply RG.wpDet_cons
        · intro w9 hw9
          have hlk := HLk.out w9 ((HK.out.widen (.inr HE.out.inr)).trans (Kp.below hw9.out))
          repeat go_step
          with_reducible refine RG.only_mk ?_
          exact hw9
        · rfl
        iterate 5
          apply RG.wpDet_cons
          · intro w9 hw9
            repeat go_step
            with_reducible refine RG.only_mk ?_
            exact hw9
          · rfl
        refine RG.wpDet_nil (fun w9 hw9 => ?_)
        have HK9 := Lib.hid (HK.out.trans (Kp.below hw9.out))
        have HR9 := Lib.hid (HR.out.kept hw9.out)
        have HE9 := Lib.hid (HE.out.kept (HK9.out.widen (.inr HE.out.inr)))
        clear hw9 HLk
        go_wp2_with fail
        refine (flags1_any q rb mb (.inr HE9.out.inr) _ b1 b2 t m' w9 r HR9.out HE9.out.lt n1 n2 (bx_kept G1.out (HK9.out.widen (.inr HE.out.inr)) n1) (bx_kept G2.out (HK9.out.widen (.inr HE.out.inr)) n2)).mono ?_
        intro e w10 hp2
        obtain ⟨v', b', rfl⟩ := hp2.form
        have HP := Lib.hid (hp2.back HK9.out)
        clear hp2
        go_wp2
        go_ret2
        exact HP.out
      | size g =>
        have hke : keyP (n + 1) (x :: r) = one1 (fun y => (numQ y).map (.size g)) r := by (conv => lhs; unfold keyP); rw [hkind]
        rw [hke]
        obtain ⟨v, hmem, huniq, hmk⟩ := tab_find HE.out.tab hkind
        obtain ⟨b1, rfl, g1, g2, h1⟩ := hmk
        have G1 := Lib.hid h1
        clear h1
        have n1 : ¬ q.has b1 := fun e => by have := HE.out.hi; have := HE.out.low; unfold Rg.has at e; omega
        have HLk := Lib.hid (fun X (h : Kp q W X) => (HE.out.kept h).tab.map.hit (tab_all_short HE.out.tab) Tryz.underlying39 hup hmem huniq)
        clear hke hkind hmem huniq
        go_enter Tryz.func10, Tryz.ntmps10
        go_wp2_with fail
        refine E1.out.mono ?_
        rintro e w2 ⟨rfl, hr2, hk2⟩
        have HK := Lib.hid hk2
        have HR := Lib.hid hr2
        obtain ⟨sv, hb2, _⟩ := hr2
        have PB := Lib.hid hb2
        clear hk2 hb2
        go_upto_region 4 with fail
        refine RG.wp_region_det (fun X => Hid (Below w2.heap.size w2 X)) (by kernel_rfl) (by kernel_rfl) (Lib.hid (Below.refl _ _).drew) ?_
        iterate 5
          apply RG.wpDet_cons
          · intro w9 hw9
            have k1 : w9.cell? ⟨rb, 1, none⟩ = some (.map (some mb)) := cell_blk (blk_below PB.out hw9.out (blk_lt PB.out)) 1
            repeat go_step
            with_reducible refine RG.only_mk ?_
            exact hw9
          · rfl
        apply RG.wpDet_cons
        · intro w9 hw9
          repeat go_step
          refine (HU.out _).mono ?_
          rintro e w10 ⟨rfl, hb10⟩
          simp only []
          repeat go_step
          with_reducible refine RG.only_mk ?_
          exact Lib.hid (hw9.out.trans (hb10.mono hw9.out.size))
        · rfl
        apply RG.wpDet_cons
        · intro w9 hw9
          have hlk := HLk.out w9 ((HK.out.widen (.inr HE.out.inr)).trans (Kp.below hw9.out))
          repeat go_step
          with_reducible refine RG.only_mk ?_
          exact hw9
        · rfl
        iterate 5
          apply RG.wpDet_cons
          · intro w9 hw9
            repeat go_step
            with_reducible refine RG.only_mk ?_
            exact hw9
          · rfl
        refine RG.wpDet_nil (fun w9 hw9 => ?_)
        have HK9 := Lib.hid (HK.out.trans (Kp.below hw9.out))
        have HR9 := Lib.hid (HR.out.kept hw9.out)
        have HE9 := Lib.hid (HE.out.kept (HK9.out.widen (.inr HE.out.inr)))
        clear hw9 HLk
        go_wp2_with fail
        refine (size1_any g q rb mb (.inr HE9.out.inr) _ b1 w9 r hsr HR9.out HE9.out.lt n1 (bx_kept G1.out (HK9.out.widen (.inr HE.out.inr)) n1)).mono ?_
        intro e w10 hp2
        obtain ⟨v', b', rfl⟩ := hp2.form
        have HP := Lib.hid (hp2.back HK9.out)
        clear hp2
        go_wp2
        go_ret2
        exact HP.out
      | field nm =>
        have hke : keyP (n + 1) (x :: r) = one1 (fun y => some (.field nm y)) r := by (conv => lhs; unfold keyP); rw [hkind]
        rw [hke]
        obtain ⟨v, hmem, huniq, hmk⟩ := tab_find HE.out.tab hkind
        have hnm : nm.length ≤ 1000 := kind_field hkind
        obtain ⟨b1, rfl, g1, g2, h1⟩ := hmk
        have G1 := Lib.hid h1
        clear h1
        have n1 : ¬ q.has b1 := fun e => by have := HE.out.hi; have := HE.out.low; unfold Rg.has at e; omega
        have HLk := Lib.hid (fun X (h : Kp q W X) => (HE.out.kept h).tab.map.hit (tab_all_short HE.out.tab) Tryz.underlying39 hup hmem huniq)
        clear hke hkind hmem huniq
        go_enter Tryz.func10, Tryz.ntmps10
        go_wp2_with fail
        refine E1.out.mono ?_
        rintro e w2 ⟨rfl, hr2, hk2⟩
        have HK := Lib.hid hk2
        have HR := Lib.hid hr2
        obtain ⟨sv, hb2, _⟩ := hr2
        have PB := Lib.hid hb2
        clear hk2 hb2
        go_upto_region 4 with fail
        refine RG.wp_region_det (fun X => Hid (Below w2.heap.size w2 X)) (by kernel_rfl) (by kernel_rfl) (Lib.hid (Below.refl _ _).drew) ?_
        iterate 5
          apply RG.wpDet_cons
          · intro w9 hw9
            have k1 : w9.cell? ⟨rb, 1, none⟩ = some (.map (some mb)) := cell_blk (blk_below PB.out hw9.out (blk_lt PB.out)) 1
            repeat go_step
            with_reducible refine RG.only_mk ?_
            exact hw9
          · rfl
        apply RG.wpDet_cons
        · intro w9 hw9
          repeat go_step
          refine (HU.out _).mono ?_
          rintro e w10 ⟨rfl, hb10⟩
          simp only []
          repeat go_step
          with_reducible refine RG.only_mk ?_
          exact Lib.hid (hw9.out.trans (hb10.mono hw9.out.size))
        · rfl
        apply RG.wpDet_cons
        · intro w9 hw9
          have hlk := HLk.out w9 ((HK.out.widen (.inr HE.out.inr)).trans (Kp.below hw9.out))
          repeat go_step
          with_reducible refine RG.only_mk ?_
          exact hw9
        · rfl
        iterate 5
          apply RG.wpDet_cons
          · intro w9 hw9
            repeat go_step
            with_reducible refine RG.only_mk ?_
            exact hw9
          · rfl
        refine RG.wpDet_nil (fun w9 hw9 => ?_)
        have HK9 := Lib.hid (HK.out.trans (Kp.below hw9.out))
        have HR9 := Lib.hid (HR.out.kept hw9.out)
        have HE9 := Lib.hid (HE.out.kept (HK9.out.widen (.inr HE.out.inr)))
        clear hw9 HLk
        go_wp2_with fail
        refine (field1_any nm hnm q rb mb (.inr HE9.out.inr) m _ b1 w9 r hsr HR9.out HE9.out.lt HE9.out.pos HE9.out.max n1 (bx_kept G1.out (HK9.out.widen (.inr HE.out.inr)) n1)).mono ?_
        intro e w10 hp2
        obtain ⟨v', b', rfl⟩ := hp2.form
        have HP := Lib.hid (hp2.back HK9.out)
        clear hp2
        go_wp2
        go_ret2
        exact HP.out
      | header =>
        have hke : keyP (n + 1) (x :: r) = headerP r := by (conv => lhs; unfold keyP); rw [hkind]; cases r with | nil => rfl | cons y r => cases r <;> rfl
        rw [hke]
        obtain ⟨v, hmem, huniq, hmk⟩ := tab_find HE.out.tab hkind
        obtain rfl : v = .func (.func 24) #[] #[] := hmk
        have HLk := Lib.hid (fun X (h : Kp q W X) => (HE.out.kept h).tab.map.hit (tab_all_short HE.out.tab) Tryz.underlying39 hup hmem huniq)
        clear hke hkind hmem huniq
        go_enter Tryz.func10, Tryz.ntmps10
        go_wp2_with fail
        refine E1.out.mono ?_
        rintro e w2 ⟨rfl, hr2, hk2⟩
        have HK := Lib.hid hk2
        have HR := Lib.hid hr2
        obtain ⟨sv, hb2, _⟩ := hr2
        have PB := Lib.hid hb2
        clear hk2 hb2
        go_upto_region 4 with fail
        refine RG.wp_region_det (fun X => Hid (Below w2.heap.size w2 X)) (by kernel_rfl) (by kernel_rfl) (Lib.hid (Below.refl _ _).drew) ?_
        iterate 5
          apply RG.wpDet_cons
          · intro w9 hw9
            have k1 : w9.cell? ⟨rb, 1, none⟩ = some (.map (some mb)) := cell_blk (blk_below PB.out hw9.out (blk_lt PB.out)) 1
            repeat go_step
            with_reducible refine RG.only_mk ?_
            exact hw9
          · rfl
        apply RG.wpDet_cons
        · intro w9 hw9
          repeat go_step
          refine (HU.out _).mono ?_
          rintro e w10 ⟨rfl, hb10⟩
          simp only []
          repeat go_step
          with_reducible refine RG.only_mk ?_
          exact Lib.hid (hw9.out.trans (hb10.mono hw9.out.size))
        · rfl
        apply RG.wpDet_cons
        · intro w9 hw9
          have hlk := HLk.out w9 ((HK.out.widen (.inr HE.out.inr)).trans (Kp.below hw9.out))
          repeat go_step
          with_reducible refine RG.only_mk ?_
          exact hw9
        · rfl
        iterate 5
          apply RG.wpDet_cons
          · intro w9 hw9
            repeat go_step
            with_reducible refine RG.only_mk ?_
            exact hw9
          · rfl
        refine RG.wpDet_nil (fun w9 hw9 => ?_)
        have HK9 := Lib.hid (HK.out.trans (Kp.below hw9.out))
        have HR9 := Lib.hid (HR.out.kept hw9.out)
        have HE9 := Lib.hid (HE.out.kept (HK9.out.widen (.inr HE.out.inr)))
        clear hw9 HLk
        go_wp2_with fail
        refine (header_any q rb mb (.inr HE9.out.inr) m _ w9 r hsr HR9.out HE9.out.lt HE9.out.pos HE9.out.max).mono ?_
        intro e w10 hp2
        obtain ⟨v', b', rfl⟩ := hp2.form
        have HP := Lib.hid (hp2.back HK9.out)
        clear hp2
        go_wp2
        go_ret2
        exact HP.out
      | text b =>
        have hke : keyP (n + 1) (x :: r) = one1 (fun y => some (.text b y)) r := by (conv => lhs; unfold keyP); rw [hkind]
        rw [hke]
        obtain ⟨v, hmem, huniq, hmk⟩ := tab_find HE.out.tab hkind
        obtain ⟨b1, rfl, g1, g2, h1⟩ := hmk
        have G1 := Lib.hid h1
        clear h1
        have n1 : ¬ q.has b1 := fun e => by have := HE.out.hi; have := HE.out.low; unfold Rg.has at e; omega
        have HLk := Lib.hid (fun X (h : Kp q W X) => (HE.out.kept h).tab.map.hit (tab_all_short HE.out.tab) Tryz.underlying39 hup hmem huniq)
        clear hke hkind hmem huniq
        go_enter Tryz.func10, Tryz.ntmps10
        go_wp2_with fail
        refine E1.out.mono ?_
        rintro e w2 ⟨rfl, hr2, hk2⟩
        have HK := Lib.hid hk2
        have HR := Lib.hid hr2
        obtain ⟨sv, hb2, _⟩ := hr2
        have PB := Lib.hid hb2
        clear hk2 hb2
        go_upto_region 4 with fail
        refine RG.wp_region_det (fun X => Hid (Below w2.heap.size w2 X)) (by kernel_rfl) (by kernel_rfl) (Lib.hid (Below.refl _ _).drew) ?_
        iterate 5
          apply RG.wpDet_cons
          · intro w9 hw9
            have k1 : w9.cell? ⟨rb, 1, none⟩ = some (.map (some mb)) := cell_blk (blk_below PB.out hw9.out (blk_lt PB.out)) 1
            repeat go_step
            with_reducible refine RG.only_mk ?_
            exact hw9
          · rfl
        apply RG.wpDet_cons
        · intro w9 hw9
          repeat go_step
          refine (HU.out _).mono ?_
          rintro e w10 ⟨rfl, hb10⟩
          simp only []
          repeat go_step
          with_reducible refine RG.only_mk ?_
          exact Lib.hid (hw9.out.trans (hb10.mono hw9.out.size))
        · rfl
        apply RG.wpDet_cons
        · intro w9 hw9
          have hlk := HLk.out w9 ((HK.out.widen (.inr HE.out.inr)).trans (Kp.below hw9.out))
          repeat go_step
          with_reducible refine RG.only_mk ?_
          exact hw9
        · rfl
        iterate 5
          apply RG.wpDet_cons
          · intro w9 hw9
            repeat go_step
            with_reducible refine RG.only_mk ?_
            exact hw9
          · rfl
        refine RG.wpDet_nil (fun w9 hw9 => ?_)
        have HK9 := Lib.hid (HK.out.trans (Kp.below hw9.out))
        have HR9 := Lib.hid (HR.out.kept hw9.out)
        have HE9 := Lib.hid (HE.out.kept (HK9.out.widen (.inr HE.out.inr)))
        clear hw9 HLk
        go_wp2_with fail
        refine (text1_any b q rb mb (.inr HE9.out.inr) m _ b1 w9 r hsr HR9.out HE9.out.lt HE9.out.pos HE9.out.max n1 (bx_kept G1.out (HK9.out.widen (.inr HE.out.inr)) n1)).mono ?_
        intro e w10 hp2
        obtain ⟨v', b', rfl⟩ := hp2.form
        have HP := Lib.hid (hp2.back HK9.out)
        clear hp2
        go_wp2
        go_ret2
        exact HP.out
      | uid =>
        have hke : keyP (n + 1) (x :: r) = one1 (fun y => (parseS y).map (.set true)) r := by (conv => lhs; unfold keyP); rw [hkind]
        rw [hke]
        obtain ⟨v, hmem, huniq, hmk⟩ := tab_find HE.out.tab hkind
        obtain rfl : v = .func (.func 28) #[] #[] := hmk
        have HLk := Lib.hid (fun X (h : Kp q W X) => (HE.out.kept h).tab.map.hit (tab_all_short HE.out.tab) Tryz.underlying39 hup hmem huniq)
        clear hke hkind hmem huniq
        go_enter Tryz.func10, Tryz.ntmps10
        go_wp2_with fail
        refine E1.out.mono ?_
        rintro e w2 ⟨rfl, hr2, hk2⟩
        have HK := Lib.hid hk2
        have HR := Lib.hid hr2
        obtain ⟨sv, hb2, _⟩ := hr2
        have PB := Lib.hid hb2
        clear hk2 hb2
        go_upto_region 4 with fail
        refine RG.wp_region_det (fun X => Hid (Below w2.heap.size w2 X)) (by kernel_rfl) (by kernel_rfl) (Lib.hid (Below.refl _ _).drew) ?_
        iterate 5
          apply RG.wpDet_cons
          · intro w9 hw9
            have k1 : w9.cell? ⟨rb, 1, none⟩ = some (.map (some mb)) := cell_blk (blk_below PB.out hw9.out (blk_lt PB.out)) 1
            repeat go_step
            with_reducible refine RG.only_mk ?_
            exact hw9
          · rfl
        apply RG.wpDet_cons
        · intro w9 hw9
          repeat go_step
          refine (HU.out _).mono ?_
          rintro e w10 ⟨rfl, hb10⟩
          simp only []
          repeat go_step
          with_reducible refine RG.only_mk ?_
          exact Lib.hid (hw9.out.trans (hb10.mono hw9.out.size))
        · rfl
        apply RG.wpDet_cons
        · intro w9 hw9
          have hlk := HLk.out w9 ((HK.out.widen (.inr HE.out.inr)).trans (Kp.below hw9.out))
          repeat go_step
          with_reducible refine RG.only_mk ?_
          exact hw9
        · rfl
        iterate 5
          apply RG.wpDet_cons
          · intro w9 hw9
            repeat go_step
            with_reducible refine RG.only_mk ?_
            exact hw9
          · rfl
        refine RG.wpDet_nil (fun w9 hw9 => ?_)
        have HK9 := Lib.hid (HK.out.trans (Kp.below hw9.out))
        have HR9 := Lib.hid (HR.out.kept hw9.out)
        have HE9 := Lib.hid (HE.out.kept (HK9.out.widen (.inr HE.out.inr)))
        clear hw9 HLk
        go_wp2_with fail
        refine (uid_any q rb mb (.inr HE9.out.inr) m _ w9 r hsr HR9.out HE9.out.lt HE9.out.pos HE9.out.max).mono ?_
        intro e w10 hp2
        obtain ⟨v', b', rfl⟩ := hp2.form
        have HP := Lib.hid (hp2.back HK9.out)
        clear hp2
        go_wp2
        go_ret2
        exact HP.out
      | not =>
        have hke : keyP (n + 1) (x :: r) = (keyP n r).map fun p => (.not p.1, p.2) := by (conv => lhs; unfold keyP); rw [hkind]
        rw [hke]
        obtain ⟨v, hmem, huniq, hmk⟩ := tab_find HE.out.tab hkind
        obtain rfl : v = .func (.func 29) #[] #[] := hmk
        have HLk := Lib.hid (fun X (h : Kp q W X) => (HE.out.kept h).tab.map.hit (tab_all_short HE.out.tab) Tryz.underlying39 hup hmem huniq)
        clear hke hkind hmem huniq
        go_enter Tryz.func10, Tryz.ntmps10
        go_wp2_with fail
        refine E1.out.mono ?_
        rintro e w2 ⟨rfl, hr2, hk2⟩
        have HK := Lib.hid hk2
        have HR := Lib.hid hr2
        obtain ⟨sv, hb2, _⟩ := hr2
        have PB := Lib.hid hb2
        clear hk2 hb2
        go_upto_region 4 with fail
        refine RG.wp_region_det (fun X => Hid (Below w2.heap.size w2 X)) (by kernel_rfl) (by kernel_rfl) (Lib.hid (Below.refl _ _).drew) ?_
        iterate 5
          apply RG.wpDet_cons
          · intro w9 hw9
            have k1 : w9.cell? ⟨rb, 1, none⟩ = some (.map (some mb)) := cell_blk (blk_below PB.out hw9.out (blk_lt PB.out)) 1
            repeat go_step
            with_reducible refine RG.only_mk ?_
            exact hw9
          · rfl
        apply RG.wpDet_cons
        · intro w9 hw9
          repeat go_step
          refine (HU.out _).mono ?_
          rintro e w10 ⟨rfl, hb10⟩
          simp only []
          repeat go_step
          with_reducible refine RG.only_mk ?_
          exact Lib.hid (hw9.out.trans (hb10.mono hw9.out.size))
        · rfl
        apply RG.wpDet_cons
        · intro w9 hw9
          have hlk := HLk.out w9 ((HK.out.widen (.inr HE.out.inr)).trans (Kp.below hw9.out))
          repeat go_step
          with_reducible refine RG.only_mk ?_
          exact hw9
        · rfl
        iterate 5
          apply RG.wpDet_cons
          · intro w9 hw9
            repeat go_step
            with_reducible refine RG.only_mk ?_
            exact hw9
          · rfl
        refine RG.wpDet_nil (fun w9 hw9 => ?_)
        have HK9 := Lib.hid (HK.out.trans (Kp.below hw9.out))
        have HR9 := Lib.hid (HR.out.kept hw9.out)
        have HE9 := Lib.hid (HE.out.kept (HK9.out.widen (.inr HE.out.inr)))
        clear hw9 HLk
        go_wp2_with fail
        refine (not_any q rb mb hi m tab n IH w9 r lv Hl.out HE9.out HR9.out hsr).mono ?_
        intro e w10 hp2
        obtain ⟨v', b', rfl⟩ := hp2.form
        have HP := Lib.hid (hp2.back HK9.out)
        clear hp2
        go_wp2
        go_ret2
        exact HP.out
      | or =>
        have hke : keyP (n + 1) (x :: r) = orP n r := by (conv => lhs; unfold keyP); rw [hkind]; unfold orP; cases keyP n r with | none => rfl | some p => rfl
        rw [hke]
        obtain ⟨v, hmem, huniq, hmk⟩ := tab_find HE.out.tab hkind
        obtain rfl : v = .func (.func 30) #[] #[] := hmk
        have HLk := Lib.hid (fun X (h : Kp q W X) => (HE.out.kept h).tab.map.hit (tab_all_short HE.out.tab) Tryz.underlying39 hup hmem huniq)
        clear hke hkind hmem huniq
        go_enter Tryz.func10, Tryz.ntmps10
        go_wp2_with fail
        refine E1.out.mono ?_
        rintro e w2 ⟨rfl, hr2, hk2⟩
        have HK := Lib.hid hk2
        have HR := Lib.hid hr2
        obtain ⟨sv, hb2, _⟩ := hr2
        have PB := Lib.hid hb2
        clear hk2 hb2
        go_upto_region 4 with fail
        refine RG.wp_region_det (fun X => Hid (Below w2.heap.size w2 X)) (by kernel_rfl) (by kernel_rfl) (Lib.hid (Below.refl _ _).drew) ?_
        iterate 5
          apply RG.wpDet_cons
          · intro w9 hw9
            have k1 : w9.cell? ⟨rb, 1, none⟩ = some (.map (some mb)) := cell_blk (blk_below PB.out hw9.out (blk_lt PB.out)) 1
            repeat go_step
            with_reducible refine RG.only_mk ?_
            exact hw9
          · rfl
        apply RG.wpDet_cons
        · intro w9 hw9
          repeat go_step
          refine (HU.out _).mono ?_
          rintro e w10 ⟨rfl, hb10⟩
          simp only []
          repeat go_step
          with_reducible refine RG.only_mk ?_
          exact Lib.hid (hw9.out.trans (hb10.mono hw9.out.size))
        · rfl
        apply RG.wpDet_cons
        · intro w9 hw9
          have hlk := HLk.out w9 ((HK.out.widen (.inr HE.out.inr)).trans (Kp.below hw9.out))
          repeat go_step
          with_reducible refine RG.only_mk ?_
          exact hw9
        · rfl
        iterate 5
          apply RG.wpDet_cons
          · intro w9 hw9
            repeat go_step
            with_reducible refine RG.only_mk ?_
            exact hw9
          · rfl
        refine RG.wpDet_nil (fun w9 hw9 => ?_)
        have HK9 := Lib.hid (HK.out.trans (Kp.below hw9.out))
        have HR9 := Lib.hid (HR.out.kept hw9.out)
        have HE9 := Lib.hid (HE.out.kept (HK9.out.widen (.inr HE.out.inr)))
        clear hw9 HLk
        go_wp2_with fail
        refine (or_any q rb mb hi m tab n IH w9 r lv Hl.out HE9.out HR9.out hsr).mono ?_
        intro e w10 hp2
        obtain ⟨v', b', rfl⟩ := hp2.form
        have HP := Lib.hid (hp2.back HK9.out)
        clear hp2
        go_wp2
        go_ret2
        exact HP.out
theorem key_any (q : Rg) (rb mb hi : Nat) (m : Int) (tab : List (Bs × Value)) : ∀ n, KeyOK q rb mb hi m tab n
  | 0 => key_zero q rb mb hi m tab
  | n + 1 => key_succ q rb mb hi m tab n (key_any q rb mb hi m tab n)
end Go.Proofs.YtkgngahmpafdhaaGreatDoor.QU
