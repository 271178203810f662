/- mailsacklaw23.ServerNumbers is true of any numbers. Conditions: the slice reads as them; the tables of the package sha; the cell of the library's MaxLen holds some int. -/
import Derived.Test.YtomnljigoljldaaGreatDoorSrvTab
import Derived.Test.YtomnljigoljldaaGreatDoorSrvCrash
import Derived.Test.YtomnljigoljldaaGreatDoorOpenK
namespace Go.Proofs.YtomnljigoljldaaGreatDoor.SV
open Go.RowKit MM Mailsack BB DS Go.Maps

/-- the memory of the law's walk -/
structure NmI (w : World) (sb mb g n N : Nat) (z : Bs) (seed : ByteArray) (last : Nat) (L : List (Int × Nat)) (W : World) : Prop where
  srv : W.heap[sb]? = some (srvO (.slice (some ⟨g, 0, none⟩) N N) (.slice none 0 0) seed 0 last (.map (some mb)))
  map : OwnM W mb n L
  dsk : HasS W g (List.replicate N z)
  bel : Below w.heap.size w W
  s0 : w.heap.size ≤ sb
  m0 : w.heap.size ≤ mb
theorem NmI.call {w : World} {sb mb g n N : Nat} {z : Bs} {seed : ByteArray} {last : Nat} {L : List (Int × Nat)} {W W' : World} (h : NmI w sb mb g n N z seed last L W) (hb : Below W.heap.size W W') : NmI w sb mb g n N z seed last L W' :=
  ⟨blk_below h.srv hb (blk_lt h.srv), ownM_below h.map hb h.map.lt, h.dsk.below hb h.dsk.lt, h.bel.trans (hb.mono h.bel.size), h.s0, h.m0⟩
theorem any_keys (L : List (Int × Nat)) (x : Int) : (((L.map Prod.fst).mergeSort leI).any fun y => decide (y = x)) = L.any fun p => decide (p.1 = x) := by
  have h := (List.mergeSort_perm (L.map Prod.fst) leI)
  rw [Bool.eq_iff_iff, List.any_eq_true, List.any_eq_true]
  constructor
  · rintro ⟨y, hy, hx⟩
    obtain ⟨p, hp, rfl⟩ := List.mem_map.1 (h.mem_iff.1 hy)
    exact ⟨p, hp, hx⟩
  · rintro ⟨p, hp, hx⟩
    exact ⟨p.1, h.mem_iff.2 (List.mem_map.2 ⟨p, hp, rfl⟩), hx⟩
theorem find_of_any {L : List (Int × Nat)} {x : Int} (h : (L.any fun p => decide (p.1 = x)) = true) : ∃ cb, L.find? (fun p => decide (p.1 = x)) = some (x, cb) := by
  cases hf : L.find? (fun p => decide (p.1 = x)) with
  | none =>
    obtain ⟨p, hp, hx⟩ := List.any_eq_true.1 h
    have := List.find?_eq_none.1 hf p hp
    exact absurd hx this
  | some p =>
    have := List.find?_some hf
    obtain ⟨a, b⟩ := p
    simp at this
    subst this
    exact ⟨b, rfl⟩
theorem any_take_step {M : List Int} {j : Nat} {y x : Int} (h : M[j]? = some y) : ((M.take (j + 1)).any fun y => decide (y = x)) = (((M.take j).any fun y => decide (y = x)) || decide (y = x)) := by
  rw [List.take_add_one, h, List.any_append]
  simp
theorem dsk_tn {P : Nat → Prop} {W W' : World} {g : Nat} {l : List Bs} (h : HasS W g l) (ht : Tn P W W') (hp : ¬ P g) : HasS W' g l := ht.blk h.blk hp
theorem NmI.hne {w : World} {sb mb g n N : Nat} {z : Bs} {seed : ByteArray} {last : Nat} {L : List (Int × Nat)} {W : World} (h : NmI w sb mb g n N z seed last L W) : sb ≠ mb := map_ne h.srv h.map
theorem NmI.gm {w : World} {sb mb g n N : Nat} {z : Bs} {seed : ByteArray} {last : Nat} {L : List (Int × Nat)} {W : World} (h : NmI w sb mb g n N z seed last L W) : g ≠ mb := map_ne h.dsk.blk h.map
theorem NmI.gs {w : World} {sb mb g n N : Nat} {z : Bs} {seed : ByteArray} {last : Nat} {L : List (Int × Nat)} {W : World} (h : NmI w sb mb g n N z seed last L W) : g ≠ sb := by
  rintro rfl
  have := h.srv.symm.trans h.dsk.blk
  simp at this
theorem NmI.set {w : World} {sb mb g n N : Nat} {z : Bs} {seed : ByteArray} {last n' last' : Nat} {L L' : List (Int × Nat)} {W W' : World} (h : NmI w sb mb g n N z seed last L W) (hs : W'.heap[sb]? = some (srvO (.slice (some ⟨g, 0, none⟩) N N) (.slice none 0 0) seed 0 last' (.map (some mb)))) (hm : OwnM W' mb n' L') (ht : Tn (fun i => i = sb ∨ i = mb) W W') :
    NmI w sb mb g n' N z seed last' L' W' :=
  ⟨hs, hm, dsk_tn h.dsk ht (by rintro (e | e); exact h.gs e; exact h.gm e), h.bel.trans (ht.below (by rintro k (e | e); rw [e]; exact h.s0; rw [e]; exact h.m0) h.bel.size), h.s0, h.m0⟩
theorem NmI.new {w : World} {sb mb g g' n N : Nat} {z : Bs} {seed : ByteArray} {last : Nat} {L L' : List (Int × Nat)} {W W' : World} (h : NmI w sb mb g n N z seed last L W) (hs : W'.heap[sb]? = some (srvO (.slice (some ⟨g', 0, none⟩) N N) (.slice none 0 0) seed 0 last (.map (some mb)))) (hm : OwnM W' mb n L') (hd : HasS W' g' (List.replicate N z)) (ht : Tn (fun i => i = sb ∨ i = mb) W W') :
    NmI w sb mb g' n N z seed last L' W' :=
  ⟨hs, hm, hd, h.bel.trans (ht.below (by rintro k (e | e); rw [e]; exact h.s0; rw [e]; exact h.m0) h.bel.size), h.s0, h.m0⟩

set_option maxHeartbeats 1000000 in
set_option maxRecDepth 100000 in
theorem numbers_any (v0 : Value) (X : List Int) (m : Int) (w : World) (hX : RdK .i8 w w.heap.size v0 X) (hwf : ∀ x ∈ X, (Lit.int .i8 x).wf = true) (hXl : X.length ≤ 9223372036854775807) (hT : SH.ShaT w) (hml : w.cell? ⟨1, 0, none⟩ = some (.int .i64 m)) :
    Calls Tryz.prog 3 #[v0] w fun e w' => e = .returned (.bool true) ∧ Below w.heap.size w w' := by
  have gM := World.block_lt_of_cell? w _ hml
  have HTS := Lib.hid (fun W (h : Below w.heap.size w W) => hT.below h (Nat.le_refl _))
  have HML := Lib.hid (fun W (h : Below w.heap.size w W) => (h.cell (p := ⟨1, 0, none⟩) gM).trans hml)
  obtain ⟨A, c, rfl, hc, hX⟩ := hX
  have HX := Lib.hid hX
  have HWF := Lib.hid hwf
  clear gM hT hml hX hwf
  go_enter Tryz.func3, Tryz.ntmps3
  go_wp2_with fail
  refine (newsrv_any _ _ _ rep_any).mono ?_
  rintro e w1 ⟨sb, mb, g, N, hN, rfl, hs, hg, hm, l1, l2, l3, hb⟩
  have hne := map_ne hs hm
  have HZ : Hid ((Lib.repeatL [0] 64).length = 64 ∧ byteI ⟨(Lib.repeatL [0] 64).toArray⟩ 0 ≠ 74) := Lib.hid ⟨by decide, by decide⟩
  generalize Lib.repeatL [0] 64 = z at hg HZ
  have HI : Hid (NmI w sb mb g 0 N z _ 0 [] w1) := Lib.hid ⟨hs, hm, hg, hb, l1, l2⟩
  have HN := Lib.hid hN
  clear hs hg hm l1 l2 l3 hb hN
  go_wp2_with fail
  go_loopw [4, 5] (fun lv iv wr => ∃ (i last n g : Nat) (L : List (Int × Nat)), i ≤ 40 ∧ i ≤ X.length ∧ last ≤ i ∧ n ≤ i ∧ lv = .int .i64 last ∧ iv = .int .i64 i ∧ L.length ≤ 4 ∧ (∀ p ∈ L, 1 ≤ p.1 ∧ p.1 ≤ last) ∧ Hid (NmI w sb mb g n N z ⟨#[115, 101, 101, 100]⟩ last L wr)) (fun _ iv _ => 41 - (intOf iv).toNat)
  case atStart => exact ⟨0, 0, 0, g, [], by omega, by omega, by omega, by omega, rfl, rfl, by simp, by simp, HI⟩
  case round =>
    obtain ⟨i, last, n, g, L, hi40, hiX, hli, hni, rfl, rfl, hL4, hLk, hr⟩ := hrel
    clear HI
    by_cases hlt : i < X.length ∧ i < 40
    · obtain ⟨hlt1, hlt2⟩ := hlt
      have HCL := Lib.hid (clients_any sb mb n _ _ _ _ _ L wr hr.out.srv hr.out.map (by omega))
      obtain ⟨b, off, rfl, hbw, hcs⟩ := HX.out (by omega)
      obtain ⟨x, hx⟩ : ∃ x, X[i]? = some x := ⟨_, List.getElem?_eq_getElem hlt1⟩
      have hxw : -128 ≤ x ∧ x ≤ 127 := by
        have h := HWF.out x (List.mem_of_getElem? hx)
        have e1 : IntKind.i8.min = -128 := by decide
        have e2 : IntKind.i8.max = 127 := by decide
        simp only [Lit.wf, e1, e2, Bool.and_eq_true, decide_eq_true_eq] at h
        exact h
      obtain ⟨hx0, hx1⟩ := hxw
      have hcx := hcs i x hx
      have HCX := Lib.hid hcx
      clear hcx hcs hx
      go_wp2_with fail
      refine HCL.out.mono ?_
      rintro e w2 ⟨v6, rfl, hrow, hb2⟩
      obtain ⟨A6, c6, rfl⟩ := row_form hrow
      have HR2 := Lib.hid (hr.out.call hb2)
      have HRW := Lib.hid hrow
      have q0 : w2.cell? ⟨b, off + i, none⟩ = some (.int .i8 x) := (HR2.out.bel.cell (p := ⟨b, off + i, none⟩) hbw).trans HCX.out
      clear hr hb2 hrow HCL HCX
      have hmlen : ((L.map Prod.fst).mergeSort leI).length = L.length := by simp
      have HAK := Lib.hid (any_keys L x)
      generalize hM : (L.map Prod.fst).mergeSort leI = M at HRW HAK hmlen
      clear hM
      by_cases hxp : 0 < x
      · go_wp2_with fail
        go_loopw [8, 43] (fun tv jv wx => ∃ j : Nat, j ≤ L.length ∧ jv = .int .i64 j ∧ tv = .bool ((M.take j).any fun y => decide (y = x)) ∧ wx = w2) (fun _ jv _ => L.length - (intOf jv).toNat)
        case atStart => exact ⟨0, Nat.zero_le _, rfl, by simp, rfl⟩
        case round =>
          obtain ⟨j, hj, rfl, rfl, rfl⟩ := hrel
          by_cases hjl : j < L.length
          · obtain ⟨y, hy⟩ : ∃ y, M[j]? = some y := ⟨_, List.getElem?_eq_getElem (by omega)⟩
            have hst := any_take_step (x := x) hy
            obtain ⟨g6, rfl⟩ : ∃ g6, A6 = some ⟨g6, 0, none⟩ := by
              rcases HRW.out.2 with ⟨h1, h2⟩ | ⟨g', cap, cur, h1, _⟩
              · omega
              · injection h1 with h1
                exact ⟨g', h1⟩
            have hcell : wr.cell? ⟨g6, j, none⟩ = some (.int .i64 y) := by
              have := World.ownsRow.cells HRW.out (g := g6) rfl j (.int .i64 y) (by simp [hy])
              have e0 : (⟨g6, 0, none⟩ : Addr).add j = ⟨g6, j, none⟩ := by unfold Addr.add; split <;> simp_all
              rwa [e0] at this
            cases hth : ((M.take j).any fun y => decide (y = x)) with
            | true =>
              rw [hth, Bool.true_or] at hst
              go_wp2_with fail
              exact ⟨⟨j + 1, hjl, by simp, by rw [hst], trivial⟩, by simp only [intOf]; omega⟩
            | false =>
              rw [hth, Bool.false_or] at hst
              go_wp2_with fail
              exact ⟨⟨j + 1, hjl, by simp, by rw [hst]; rfl, trivial⟩, by simp only [intOf]; omega⟩
          · have hjj : j = L.length := by omega
            subst hjj
            rw [← hmlen, List.take_length, HAK.out]
            cases hth : (L.any fun p => decide (p.1 = x)) with
            | true =>
              obtain ⟨cb, hfd⟩ := find_of_any hth
              have HSH := Lib.hid (shut_there sb mb cb n _ _ _ _ _ x L wr HR2.out.srv HR2.out.map hfd (by omega) (by omega) HR2.out.hne)
              rw [hmlen]
              go_wp2_with fail
              refine HSH.out.mono ?_
              rintro e w3 ⟨rfl, hs3, hm3, ht3⟩
              have HR3 := Lib.hid (HR2.out.set hs3 hm3 (ht3.more (fun k hk => .inr hk)))
              clear hs3 hm3 ht3 HR2 HSH
              go_wp2_with fail
              refine ⟨⟨i + 1, last, n, g, L.filter fun p => !decide (p.1 = x), by omega, by omega, by omega, by omega, rfl, by simp, ?_, fun p hp => hLk p (List.mem_filter.1 hp).1, HR3⟩, by simp only [intOf]; omega⟩
              exact Nat.le_trans (List.length_filter_le _ _) hL4
            | false =>
              have HSH := Lib.hid (shut_not sb mb n _ _ _ _ _ x L wr HR2.out.srv HR2.out.map hth (by omega) (by omega))
              rw [hmlen]
              go_wp2_with fail
              refine HSH.out.mono ?_
              rintro e w3 ⟨rfl, rfl⟩
              go_wp2_with fail
              exact ⟨⟨i + 1, last, n, g, L, by omega, by omega, by omega, by omega, rfl, by simp, hL4, hLk, HR2⟩, by simp only [intOf]; omega⟩
      · by_cases hx0e : x = 0
        · subst hx0e
          by_cases hlen : L.length < 4
          · have HOP := Lib.hid (open_mail sb mb n _ _ _ _ last L w2 HR2.out.srv HR2.out.map HR2.out.hne (by omega) (by omega) hlen (fun p hp => by have := (hLk p hp).2; omega))
            have hl3 : ¬ (3 < (L.length : Int)) := by omega
            go_wp2_with fail
            refine HOP.out.mono ?_
            rintro e w3 ⟨rfl, hs3, _, hm3, ht3⟩
            have HR3 := Lib.hid (HR2.out.set hs3 hm3 ht3)
            clear hs3 hm3 ht3 HR2 HOP
            go_wp2_with fail
            refine ⟨⟨i + 1, last + 1, n + 1, g, _, by omega, by omega, by omega, by omega, by simp, by simp, ?_, ?_, HR3⟩, by simp only [intOf]; omega⟩
            · simp; omega
            · intro p hp
              rcases List.mem_append.1 hp with h | h
              · have := hLk p h
                omega
              · simp at h
                subst h
                omega
          · have HOP := Lib.hid (open_full sb mb n _ _ _ _ _ L w2 HR2.out.srv HR2.out.map (by omega))
            have hl3 : (3 < (L.length : Int)) := by omega
            go_wp2_with fail
            refine HOP.out.mono ?_
            rintro e w3 ⟨rfl, hb3⟩
            have HR3 := Lib.hid (HR2.out.call hb3)
            clear hb3 HR2 HOP
            go_wp2_with fail
            exact ⟨⟨i + 1, last, n, g, L, by omega, by omega, by omega, by omega, rfl, by simp, hL4, hLk, HR3⟩, by simp only [intOf]; omega⟩
        · have HOP := Lib.hid (crash_equal sb mb g n N z _ _ _ L w2 HR2.out.srv HR2.out.map HR2.out.dsk HR2.out.hne (by rw [HN.out]; decide) (by rw [HN.out]; decide) HZ.out.1 HZ.out.2)
          go_wp2_with fail
          refine HOP.out.mono ?_
          rintro e w3 ⟨g3, rfl, hs3, hd3, hm3, hl3, ht3⟩
          have HR3 := Lib.hid (HR2.out.new hs3 hm3 hd3 ht3)
          clear hs3 hm3 hd3 hl3 ht3 HR2 HOP
          have HCL := Lib.hid (clients_any sb mb n _ _ _ _ _ [] w3 HR3.out.srv HR3.out.map (by simp))
          go_wp2_with fail
          refine HCL.out.mono ?_
          rintro e w4 ⟨v4, rfl, hrow4, hb4⟩
          obtain ⟨A4, c4, rfl⟩ := row_form hrow4
          have HR4 := Lib.hid (HR3.out.call hb4)
          clear hb4 hrow4 HR3 HCL
          go_wp2_with fail
          exact ⟨⟨i + 1, last, n, g3, [], by omega, by omega, by omega, by omega, rfl, by simp, by simp, by simp, HR4⟩, by simp only [intOf]; omega⟩
    · have hcases : X.length ≤ i ∨ (i < X.length ∧ 40 ≤ i) := by omega
      rcases hcases with hge | ⟨hlt3, hge⟩
      · go_wp2_with fail
        refine (awake_any m wr (HTS.out wr hr.out.bel) (HML.out wr hr.out.bel)).mono ?_
        rintro e w3 ⟨rfl, hb3⟩
        go_wp2_with fail
        go_ret
        exact ⟨rfl, hr.out.bel.trans (hb3.mono hr.out.bel.size)⟩
      · go_wp2_with fail
        refine (awake_any m wr (HTS.out wr hr.out.bel) (HML.out wr hr.out.bel)).mono ?_
        rintro e w3 ⟨rfl, hb3⟩
        go_wp2_with fail
        go_ret
        exact ⟨rfl, hr.out.bel.trans (hb3.mono hr.out.bel.size)⟩
end Go.Proofs.YtomnljigoljldaaGreatDoor.SV
