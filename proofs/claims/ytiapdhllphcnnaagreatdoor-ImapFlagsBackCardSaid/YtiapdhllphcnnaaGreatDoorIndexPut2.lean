/- What index.Put returns, as a function of the index as plain data. Conditions: the index reads as that data; lengths. -/
import Derived.Test.YtiapdhllphcnnaaGreatDoorIndexPut
namespace Mailsack
def mailB (m : MailP) : Bs := numB m.uid 4 ++ numB m.flags 1 ++ numB m.object 4 ++ numB m.size 2
def headB (b : BoxP) : Bs := textB b.name ++ numB b.validity 4 ++ numB b.next 4 ++ numB b.mails.length 1
def boxB (b : BoxP) : Bs := headB b ++ (b.mails.map mailB).flatten
def putB (x : IndexP) : Bs := numB x.given 4 ++ numB x.boxes.length 1 ++ (x.boxes.map boxB).flatten ++ numB x.subs.length 1 ++ (x.subs.map textB).flatten
def putT (x : IndexP) : Bs := if rightP x = true then putB x else []
def putE (x : IndexP) : Int := if rightP x = true then 0 else 1
theorem mailB_length (m : MailP) : (mailB m).length = 11 := by unfold mailB; simp [numB_length]
theorem textB_length (s : Bs) : (textB s).length = s.length + 1 := rfl
theorem headB_length (b : BoxP) : (headB b).length = b.name.length + 10 := by unfold headB; simp [numB_length, textB_length]
theorem flat_step {α : Type} {L : List α} {k : Nat} {x : α} (h : L[k]? = some x) (f : α → Bs) : ((L.take (k + 1)).map f).flatten = ((L.take k).map f).flatten ++ f x := by
  rw [List.take_add_one, h]
  simp
theorem flat_length {α : Type} {L : List α} (f : α → Bs) {c : Nat} (h : ∀ x ∈ L, (f x).length ≤ c) (k : Nat) : (((L.take k).map f).flatten).length ≤ c * k := by
  induction k with
  | zero => simp
  | succ k ih =>
    cases e : L[k]? with
    | none => rw [List.take_add_one, e]; simp only [Option.toList, List.append_nil]; rw [Nat.mul_succ]; omega
    | some x =>
      rw [flat_step e, List.length_append, Nat.mul_succ]
      have := h x (List.mem_of_getElem? e)
      omega
theorem boxesP_all {given : Int} : ∀ {l : List BoxP} {i : Nat} {p : Bs}, boxesP given l i p = true → ∀ b ∈ l, boxOkP b = true
  | [], _, _, _, _, hb => by cases hb
  | b :: l, i, p, h, b', hb => by
    unfold boxesP at h
    simp only [Bool.and_eq_true] at h
    rcases List.mem_cons.1 hb with rfl | hb
    · exact h.1.1.1.1
    · exact boxesP_all h.2 b' hb
theorem subsP_all : ∀ {l : List Bs} {i : Nat} {p : Bs}, subsP l i p = true → ∀ s ∈ l, nameP s = true
  | [], _, _, _, _, hb => by cases hb
  | b :: l, i, p, h, b', hb => by
    unfold subsP at h
    simp only [Bool.and_eq_true] at h
    rcases List.mem_cons.1 hb with rfl | hb
    · exact h.1.1
    · exact subsP_all h.2 b' hb
theorem nameP_len {s : Bs} (h : nameP s = true) : s.length ≤ 16 := by
  unfold nameP at h
  simp only [Bool.and_eq_true, decide_eq_true_eq] at h
  exact h.1.2
theorem boxOk_len {b : BoxP} (h : boxOkP b = true) : b.name.length ≤ 16 ∧ b.mails.length ≤ 30 := by
  unfold boxOkP at h
  simp only [Bool.and_eq_true, decide_eq_true_eq] at h
  exact ⟨nameP_len h.1.1.1.1, h.1.2⟩
theorem right_len {x : IndexP} (h : rightP x = true) : x.boxes.length ≤ 6 ∧ x.subs.length ≤ 6 ∧ (∀ b ∈ x.boxes, b.name.length ≤ 16 ∧ b.mails.length ≤ 30) ∧ ∀ s ∈ x.subs, s.length ≤ 16 := by
  unfold rightP at h
  simp only [Bool.and_eq_true, decide_eq_true_eq] at h
  exact ⟨h.1.1.1.1.1.1.2, h.1.1.1.1.2, fun b hb => boxOk_len (boxesP_all h.1.1.2 b hb), fun s hs => nameP_len (subsP_all h.1.2 s hs)⟩
theorem boxB_length {b : BoxP} (h : b.name.length ≤ 16 ∧ b.mails.length ≤ 30) : (boxB b).length ≤ 400 := by
  unfold boxB
  rw [List.length_append, headB_length]
  have := flat_length (L := b.mails) mailB (c := 11) (fun m _ => by rw [mailB_length]; exact Nat.le_refl _) b.mails.length
  rw [List.take_length] at this
  omega
end Mailsack
namespace Go.Proofs.YtiapdhllphcnnaaGreatDoor.IX
open Go.RowKit Mailsack MM BU VB

/-- an owned row of bytes beside a block that it does not own -/
structure Hold (w1 : World) (base g : Nat) (o : Obj) (w : World) (v : Value) (l : Bs) : Prop where
  own : OwnB w base v l
  off : v.ownBlock ≠ some g
  blk : w.heap[g]? = some o
  below : Below base w1 w
  size : base ≤ w.heap.size
theorem Hold.step {w1 w w' : World} {base g : Nat} {o : Obj} {v v' : Value} {l l' : Bs} (h : Hold w1 base g o w v l) (ho : OwnB w' base v' l') (he : Ext w v w' v') : Hold w1 base g o w' v' l' := by
  have ha := he.away (blk_lt h.blk) h.off
  exact ⟨ho, ha.2, ha.1.trans h.blk, h.below.trans (he.below h.own h.size), Nat.le_trans h.size he.grown.size⟩
theorem Hold.begin {w1 wr : World} {base : Nat} {v : Value} {l : Bs} (ho : OwnB wr base v l) (hb : Below base w1 wr) (hs : base ≤ wr.heap.size) (o : Obj) : Hold w1 base wr.heap.size o (wr.alloc o) v l :=
  ⟨ho.alloc o, fun e => by have := (World.ownsRow.lt ho _ e).2; omega, blk_new wr o, ⟨hb.os, hb.tape, hb.output, Nat.le_trans hb.size (by simp), fun k hk => (Below.heap_alloc wr o k (by omega)).trans (hb.block k hk)⟩, by simp; omega⟩
theorem number_hold {w1 w : World} {base g : Nat} {o : Obj} {v : Value} {l : Bs} (n : Int) (c : Nat) (h : Hold w1 base g o w v l) (hl : l.length < 4294967281) (hc : c ≤ 4) :
    Calls Tryz.prog 32 #[v, .int .i64 n, .int .i64 c] w fun e w' => ∃ v', e = .returned v' ∧ Hold w1 base g o w' v' (l ++ numB n c) := by
  refine (number_any n c v l w base h.own h.size hl hc).mono ?_
  rintro e w' ⟨v', rfl, h1, h2⟩
  exact ⟨v', rfl, h.step h1 h2⟩
theorem text_hold {w1 w : World} {base g : Nat} {o : Obj} {v : Value} {l : Bs} (s : Bs) (h : Hold w1 base g o w v l) (hl : l.length < 4294967281) (hs : s.length ≤ 100) :
    Calls Tryz.prog 33 #[v, strV s] w fun e w' => ∃ v', e = .returned v' ∧ Hold w1 base g o w' v' (l ++ textB s) := by
  refine (text_any ⟨s.toArray⟩ v l w base h.own h.size hl hs).mono ?_
  rintro e w' ⟨v', rfl, h1, h2⟩
  exact ⟨v', rfl, h.step h1 h2⟩

set_option maxHeartbeats 8000000 in
set_option maxRecDepth 100000 in
theorem put_any (bv sv : Value) (x : IndexP) (w : World) (h : RdIx w w.heap.size bv sv x) (hm : ∀ b ∈ x.boxes, b.mails.length ≤ 9223372036854775807) (hl : x.boxes.length ≤ 9223372036854775807) (hl2 : x.subs.length ≤ 9223372036854775807) :
    Calls Tryz.prog 21 #[.agg #[bv, sv, .int .i64 x.given]] w fun e w' => e = .returned (.tuple #[strV (putT x), .int .i64 (putE x)]) ∧ Below w.heap.size w w' := by
  have HB := Lib.hid h.boxes
  have HS := Lib.hid h.subs
  have H1 := Lib.hid ((Below.refl w.heap.size w).alloc (Nat.le_refl _) (.cells #[bv, sv, .int .i64 x.given] 30))
  have P1 := Lib.hid (blk_new w (.cells #[bv, sv, .int .i64 x.given] 30))
  have S1 := Lib.hid (size_new w (.cells #[bv, sv, .int .i64 x.given] 30))
  have HR : Hid (Calls Tryz.prog 19 #[.agg #[bv, sv, .int .i64 x.given]] (w.alloc (.cells #[bv, sv, .int .i64 x.given] 30)) fun e w' => e = .returned (.bool (rightP x)) ∧ Below (w.alloc (.cells #[bv, sv, .int .i64 x.given] 30)).heap.size (w.alloc (.cells #[bv, sv, .int .i64 x.given] 30)) w') :=
    Lib.hid (right_any bv sv x _ ((h.below H1.out (Nat.le_refl _)).more H1.out.size) hm hl hl2)
  obtain ⟨A, c, rfl, hc, _⟩ := h.boxes
  obtain ⟨A2, c2, rfl, hc2, _⟩ := h.subs
  clear h hm
  have HT : Hid (putT x = if rightP x = true then putB x else []) := Lib.hid rfl
  have HE : Hid (putE x = if rightP x = true then 0 else 1) := Lib.hid rfl
  generalize putT x = T at HT ⊢
  generalize putE x = E at HE ⊢
  have HL := Lib.hid (right_len (x := x))
  generalize rightP x = R at HR HT HE HL
  cases R with
  | false =>
    go_enter Tryz.func21, Tryz.ntmps21
    go_wp2_with (go_at_call 19; refine HR.out.mono ?_; rintro e w2 ⟨rfl, hb2⟩)
    go_ret2
    refine ⟨?_, H1.out.trans (hb2.mono H1.out.size)⟩
    rw [HT.out, HE.out]
    rfl
  | true =>
    obtain ⟨h6, h6', hbx, hsx⟩ := HL.out rfl
    replace HT : Hid (T = putB x) := Lib.hid (by rw [HT.out]; rfl)
    replace HE : Hid (E = 0) := Lib.hid (by rw [HE.out]; rfl)
    clear HL
    have HBX := Lib.hid hbx
    have HSX := Lib.hid hsx
    clear hbx hsx
    obtain ⟨P, hP⟩ : ∃ P : Nat → Bs, ∀ k, P k = numB x.given 4 ++ numB x.boxes.length 1 ++ ((x.boxes.take k).map boxB).flatten := ⟨_, fun _ => rfl⟩
    have HP0 : Hid (P 0 = numB x.given 4 ++ numB x.boxes.length 1) := Lib.hid (by rw [hP]; simp)
    have HPS : Hid (∀ k b, x.boxes[k]? = some b → P (k + 1) = P k ++ boxB b) := Lib.hid (fun k b hb => by rw [hP, hP, flat_step hb]; simp only [List.append_assoc])
    have HPL : Hid (∀ k, (P k).length ≤ 5 + 400 * k) := Lib.hid (fun k => by
      rw [hP, List.length_append, List.length_append, numB_length, numB_length]
      have := flat_length (L := x.boxes) boxB (c := 400) (fun b hb => boxB_length (HBX.out b hb)) k
      omega)
    have HPE : Hid (putB x = P x.boxes.length ++ numB x.subs.length 1 ++ (x.subs.map textB).flatten) := Lib.hid (by rw [hP, List.take_length]; rfl)
    clear hP
    go_enter Tryz.func21, Tryz.ntmps21
    go_wp2_with fail
    refine HR.out.mono ?_
    rintro e w2 ⟨rfl, hb2⟩
    have p2 := blk_below P1.out hb2 (by rw [S1.out]; omega)
    have y2 : w2.cell? ⟨w.heap.size, 2, none⟩ = some (.int .i64 x.given) := cell_blk p2 2
    have HB2 := Lib.hid hb2
    clear hb2
    have y0 : w2.cell? ⟨w.heap.size, 0, none⟩ = some (.slice A x.boxes.length c) := cell_blk p2 0
    clear p2 HR
    go_wp2_with fail
    refine (number_any x.given 4 _ [] w2 (w.alloc (.cells #[.slice A x.boxes.length c, .slice A2 x.subs.length c2, .int .i64 x.given] 30)).heap.size (OwnB.nil _ _) HB2.out.size (by decide) (by decide)).mono ?_
    rintro e w3 ⟨v3, rfl, ho3, he3⟩
    have hb3 := HB2.out.trans (he3.below (OwnB.nil _ _) HB2.out.size)
    have p3 := blk_below P1.out hb3 (by rw [S1.out]; omega)
    have y0' : w3.cell? ⟨w.heap.size, 0, none⟩ = some (.slice A x.boxes.length c) := cell_blk p3 0
    have HB3 := Lib.hid hb3
    have HO3 := Lib.hid ho3
    clear hb3 he3 ho3 p3 y0 y2 HB2
    go_wp2_with fail
    refine (number_any x.boxes.length 1 _ _ w3 (w.alloc (.cells #[.slice A x.boxes.length c, .slice A2 x.subs.length c2, .int .i64 x.given] 30)).heap.size HO3.out HB3.out.size (by simp [numB_length]) (by decide)).mono ?_
    rintro e w4 ⟨v4, rfl, ho4, he4⟩
    have hb4 := HB3.out.trans (he4.below HO3.out HB3.out.size)
    have p4 := blk_below P1.out hb4 (by rw [S1.out]; omega)
    have y0 : w4.cell? ⟨w.heap.size, 0, none⟩ = some (.slice A x.boxes.length c) := cell_blk p4 0
    have HB4 := Lib.hid hb4
    have HO4 : Hid (OwnB w4 (w.alloc (.cells #[.slice A x.boxes.length c, .slice A2 x.subs.length c2, .int .i64 x.given] 30)).heap.size v4 (P 0)) := Lib.hid (by rw [HP0.out]; exact ho4)
    clear hb4 he4 ho4 p4 y0' HB3 HO3
    go_wp2_with fail
    go_loopw [4, 25] (fun lv iv wr => ∃ k : Nat, k ≤ x.boxes.length ∧ iv = .int .i64 k ∧ Hid (OwnB wr (w.alloc (.cells #[.slice A x.boxes.length c, .slice A2 x.subs.length c2, .int .i64 x.given] 30)).heap.size lv (P k)) ∧ Hid (Below (w.alloc (.cells #[.slice A x.boxes.length c, .slice A2 x.subs.length c2, .int .i64 x.given] 30)).heap.size (w.alloc (.cells #[.slice A x.boxes.length c, .slice A2 x.subs.length c2, .int .i64 x.given] 30)) wr)) (fun _ iv _ => x.boxes.length - (intOf iv).toNat)
    case atStart => exact ⟨0, Nat.zero_le _, rfl, HO4, HB4⟩
    case round =>
      obtain ⟨k, hk, rfl, hown, hbel⟩ := hrel
      clear HO4 HB4 y0
      by_cases hlt : k < x.boxes.length
      · obtain ⟨b, hx⟩ : ∃ b, x.boxes[k]? = some b := ⟨_, List.getElem?_eq_getElem hlt⟩
        obtain ⟨g, off, c', mv, e0, hg, q0, q1, q2, q3, hmv⟩ := boxes_at HB.out hx
        injection e0 with e0 _ e0'
        subst e0 e0'
        have hwr : Below w.heap.size w wr := H1.out.trans (hbel.out.mono H1.out.size)
        have r0 := (hwr.cell (p := ⟨g, off + k * 4, none⟩) hg).trans q0
        have r1 := (hwr.cell (p := ⟨g, off + k * 4 + 1, none⟩) hg).trans q1
        have r2 := (hwr.cell (p := ⟨g, off + k * 4 + 2, none⟩) hg).trans q2
        have r3 := (hwr.cell (p := ⟨g, off + k * 4 + 3, none⟩) hg).trans q3
        obtain ⟨hbn, hbm⟩ := HBX.out b (List.mem_of_getElem? hx)
        have HSt := Lib.hid (HPS.out k b hx)
        have HLk := Lib.hid (HPL.out k)
        have hmv' := hmv
        obtain ⟨Am, cm, rfl, hcm, _⟩ := hmv'
        have HMv := Lib.hid hmv
        have Hwr := Lib.hid hwr
        have HH := Lib.hid (Hold.begin hown.out hbel.out hbel.out.size (.cells #[strV b.name, .int .i64 b.validity, .int .i64 b.next, .slice Am b.mails.length cm] 70))
        clear q0 q1 q2 q3 hmv hwr hx
        go_wp2_with fail
        refine (text_hold b.name HH.out (by have := HLk.out; omega) (by omega)).mono ?_
        rintro e w5 ⟨v5, rfl, hh5⟩
        have HL5 : Hid ((P k ++ textB b.name).length ≤ 5 + 400 * k + 17) := Lib.hid (by rw [List.length_append, textB_length]; have := HLk.out; omega)
        have HH5 := Lib.hid hh5
        have z1 : w5.cell? ⟨wr.heap.size, 1, none⟩ = some (.int .i64 b.validity) := cell_blk hh5.blk 1
        clear hh5 HH r0 r1 r2 r3
        go_wp2_with fail
        refine (number_hold b.validity 4 HH5.out (by have := HL5.out; omega) (by decide)).mono ?_
        rintro e w6 ⟨v6, rfl, hh6⟩
        have HL6 : Hid ((P k ++ textB b.name ++ numB b.validity 4).length ≤ 5 + 400 * k + 21) := Lib.hid (by rw [List.length_append, numB_length]; have := HL5.out; omega)
        have HH6 := Lib.hid hh6
        have z2 : w6.cell? ⟨wr.heap.size, 2, none⟩ = some (.int .i64 b.next) := cell_blk hh6.blk 2
        clear hh6 HH5 z1 HL5
        go_wp2_with fail
        refine (number_hold b.next 4 HH6.out (by have := HL6.out; omega) (by decide)).mono ?_
        rintro e w7 ⟨v7, rfl, hh7⟩
        have HL7 : Hid ((P k ++ textB b.name ++ numB b.validity 4 ++ numB b.next 4).length ≤ 5 + 400 * k + 25) := Lib.hid (by rw [List.length_append, numB_length]; have := HL6.out; omega)
        have HH7 := Lib.hid hh7
        have z3 : w7.cell? ⟨wr.heap.size, 3, none⟩ = some (.slice Am b.mails.length cm) := cell_blk hh7.blk 3
        clear hh7 HH6 z2 HL6
        go_wp2_with fail
        refine (number_hold b.mails.length 1 HH7.out (by have := HL7.out; omega) (by decide)).mono ?_
        rintro e w8 ⟨v8, rfl, hh8⟩
        have HH8 := Lib.hid hh8
        have z3' : w8.cell? ⟨wr.heap.size, 3, none⟩ = some (.slice Am b.mails.length cm) := cell_blk hh8.blk 3
        clear hh8 HH7 z3 HL7
        obtain ⟨M, hM⟩ : ∃ M : Nat → Bs, ∀ j, M j = P k ++ headB b ++ ((b.mails.take j).map mailB).flatten := ⟨_, fun _ => rfl⟩
        have HM0 : Hid (M 0 = P k ++ textB b.name ++ numB b.validity 4 ++ numB b.next 4 ++ numB b.mails.length 1) := Lib.hid (by rw [hM]; unfold headB; simp [List.append_assoc])
        have HMS : Hid (∀ j m, b.mails[j]? = some m → M (j + 1) = M j ++ mailB m) := Lib.hid (fun j m hm => by rw [hM, hM, flat_step hm]; simp only [List.append_assoc])
        have HML : Hid (∀ j, (M j).length ≤ 5 + 400 * k + 26 + 11 * j) := Lib.hid (fun j => by
          rw [hM, List.length_append, List.length_append, headB_length]
          have := flat_length (L := b.mails) mailB (c := 11) (fun m _ => by rw [mailB_length]; exact Nat.le_refl _) j
          have := HLk.out
          omega)
        have HME : Hid (P (k + 1) = M b.mails.length) := Lib.hid (by rw [HSt.out, hM, List.take_length]; unfold boxB; simp only [List.append_assoc])
        clear hM
        have HB8 := Lib.hid HH8.out.below
        have HO8 : Hid (OwnB w8 (w.alloc (.cells #[.slice (some ⟨g, off, none⟩) x.boxes.length c, .slice A2 x.subs.length c2, .int .i64 x.given] 30)).heap.size v8 (M 0)) := Lib.hid (by rw [HM0.out]; exact HH8.out.own)
        clear HH8
        go_wp2_with fail
        go_loopw [4, 49] (fun lv iv wr => ∃ j : Nat, j ≤ b.mails.length ∧ iv = .int .i64 j ∧ Hid (OwnB wr (w.alloc (.cells #[.slice (some ⟨g, off, none⟩) x.boxes.length c, .slice A2 x.subs.length c2, .int .i64 x.given] 30)).heap.size lv (M j)) ∧ Hid (Below (w.alloc (.cells #[.slice (some ⟨g, off, none⟩) x.boxes.length c, .slice A2 x.subs.length c2, .int .i64 x.given] 30)).heap.size (w.alloc (.cells #[.slice (some ⟨g, off, none⟩) x.boxes.length c, .slice A2 x.subs.length c2, .int .i64 x.given] 30)) wr)) (fun _ iv _ => b.mails.length - (intOf iv).toNat)
        case atStart => exact ⟨0, Nat.zero_le _, rfl, HO8, HB8⟩
        case round =>
          rename_i wq _
          obtain ⟨j, hj, rfl, hown2, hbel2⟩ := hrel
          clear HO8 HB8 z3'
          by_cases hlt2 : j < b.mails.length
          · obtain ⟨m, hxm⟩ : ∃ m, b.mails[j]? = some m := ⟨_, List.getElem?_eq_getElem hlt2⟩
            obtain ⟨A4, c4, e0, _, hrd⟩ := HMv.out
            injection e0 with e0 _ e0'
            subst e0 e0'
            obtain ⟨g4, off4, rfl, hg4, hcell⟩ := hrd (by omega)
            obtain ⟨q1, q2, q3, q4⟩ := hcell j m hxm
            have hwq : Below w.heap.size w wr := H1.out.trans (hbel2.out.mono H1.out.size)
            have r1 := (hwq.cell (p := ⟨g4, off4 + j * 4, none⟩) hg4).trans q1
            have r2 := (hwq.cell (p := ⟨g4, off4 + j * 4 + 1, none⟩) hg4).trans q2
            have r3 := (hwq.cell (p := ⟨g4, off4 + j * 4 + 2, none⟩) hg4).trans q3
            have r4 := (hwq.cell (p := ⟨g4, off4 + j * 4 + 3, none⟩) hg4).trans q4
            have HK1 := Lib.hid (Hold.begin hown2.out hbel2.out hbel2.out.size (.cells #[.int .i64 m.uid, .int .i64 m.flags, .int .i64 m.object, .int .i64 m.size] 94))
            have HMj := Lib.hid (HML.out j)
            have HMs := Lib.hid (HMS.out j m hxm)
            clear q1 q2 q3 q4 hcell hrd hxm hwq
            go_wp2_with fail
            refine (number_hold m.uid 4 HK1.out (by have := HMj.out; omega) (by decide)).mono ?_
            rintro e w9 ⟨v9, rfl, hk9⟩
            have HL9 : Hid ((M j ++ numB m.uid 4).length ≤ 5 + 400 * k + 26 + 11 * j + 4) := Lib.hid (by rw [List.length_append, numB_length]; have := HMj.out; omega)
            have HK9 := Lib.hid hk9
            have z1 : w9.cell? ⟨wr.heap.size, 1, none⟩ = some (.int .i64 m.flags) := cell_blk hk9.blk 1
            clear hk9 HK1 r1 r2 r3 r4
            go_wp2_with fail
            refine (number_hold m.flags 1 HK9.out (by have := HL9.out; omega) (by decide)).mono ?_
            rintro e w10 ⟨v10, rfl, hk10⟩
            have HL10 : Hid ((M j ++ numB m.uid 4 ++ numB m.flags 1).length ≤ 5 + 400 * k + 26 + 11 * j + 5) := Lib.hid (by rw [List.length_append, numB_length]; have := HL9.out; omega)
            have HK10 := Lib.hid hk10
            have z2 : w10.cell? ⟨wr.heap.size, 2, none⟩ = some (.int .i64 m.object) := cell_blk hk10.blk 2
            clear hk10 HK9 z1 HL9
            go_wp2_with fail
            refine (number_hold m.object 4 HK10.out (by have := HL10.out; omega) (by decide)).mono ?_
            rintro e w11 ⟨v11, rfl, hk11⟩
            have HL11 : Hid ((M j ++ numB m.uid 4 ++ numB m.flags 1 ++ numB m.object 4).length ≤ 5 + 400 * k + 26 + 11 * j + 9) := Lib.hid (by rw [List.length_append, numB_length]; have := HL10.out; omega)
            have HK11 := Lib.hid hk11
            have z3 : w11.cell? ⟨wr.heap.size, 3, none⟩ = some (.int .i64 m.size) := cell_blk hk11.blk 3
            clear hk11 HK10 z2 HL10
            go_wp2_with fail
            refine (number_hold m.size 2 HK11.out (by have := HL11.out; omega) (by decide)).mono ?_
            rintro e w12 ⟨v12, rfl, hk12⟩
            have HK12 := Lib.hid hk12
            clear hk12 HK11 z3 HL11
            go_wp2
            exact ⟨⟨j + 1, by omega, by go_num, Lib.hid (by rw [HMs.out]; unfold mailB; simp only [← List.append_assoc]; exact HK12.out.own), Lib.hid HK12.out.below⟩, by simp [intOf]; omega⟩
          · obtain rfl : j = b.mails.length := by omega
            have HOx : Hid (OwnB wr (w.alloc (.cells #[.slice (some ⟨g, off, none⟩) x.boxes.length c, .slice A2 x.subs.length c2, .int .i64 x.given] 30)).heap.size _ (P (k + 1))) := Lib.hid (by rw [HME.out]; exact hown2.out)
            go_wp2
            exact ⟨⟨k + 1, by omega, by go_num, HOx, hbel2⟩, by simp [intOf]; omega⟩
      · obtain rfl : k = x.boxes.length := by omega
        have p5 := blk_below P1.out hbel.out (by rw [S1.out]; omega)
        have y1 : wr.cell? ⟨w.heap.size, 1, none⟩ = some (.slice A2 x.subs.length c2) := cell_blk p5 1
        have HLk := Lib.hid (HPL.out x.boxes.length)
        have HPE1 : Hid (putB x = P x.boxes.length ++ numB x.subs.length 1 ++ (x.subs.map textB).flatten) := HPE
        generalize P x.boxes.length = PB at hown HLk HPE1
        clear p5 HPS HPL HP0 HPE
        go_wp2_with fail
        refine (number_any x.subs.length 1 _ _ wr (w.alloc (.cells #[.slice A x.boxes.length c, .slice A2 x.subs.length c2, .int .i64 x.given] 30)).heap.size hown.out hbel.out.size (by have := HLk.out; omega) (by decide)).mono ?_
        rintro e w5 ⟨v5, rfl, ho5, he5⟩
        have hb5 := hbel.out.trans (he5.below hown.out hbel.out.size)
        have p5 := blk_below P1.out hb5 (by rw [S1.out]; omega)
        have y1' : w5.cell? ⟨w.heap.size, 1, none⟩ = some (.slice A2 x.subs.length c2) := cell_blk p5 1
        obtain ⟨M, hM⟩ : ∃ M : Nat → Bs, ∀ j, M j = PB ++ numB x.subs.length 1 ++ ((x.subs.take j).map textB).flatten := ⟨_, fun _ => rfl⟩
        have HM0 : Hid (M 0 = PB ++ numB x.subs.length 1) := Lib.hid (by rw [hM]; simp)
        have HMS : Hid (∀ j s, x.subs[j]? = some s → M (j + 1) = M j ++ textB s) := Lib.hid (fun j m hm => by rw [hM, hM, flat_step hm]; simp only [List.append_assoc])
        have HML : Hid (∀ j, (M j).length ≤ 5 + 400 * x.boxes.length + 1 + 17 * j) := Lib.hid (fun j => by
          rw [hM, List.length_append, List.length_append, numB_length]
          have := flat_length (L := x.subs) textB (c := 17) (fun m hm => by rw [textB_length]; have := HSX.out m hm; omega) j
          have := HLk.out
          omega)
        have HME : Hid (T = M x.subs.length) := Lib.hid (by rw [HT.out, HPE1.out, hM, List.take_length])
        clear hM
        have HB5 := Lib.hid hb5
        have HO5 : Hid (OwnB w5 (w.alloc (.cells #[.slice A x.boxes.length c, .slice A2 x.subs.length c2, .int .i64 x.given] 30)).heap.size v5 (M 0)) := Lib.hid (by rw [HM0.out]; exact ho5)
        clear hown hbel y1 ho5 he5 hb5 p5 HPE1 HLk HM0
        go_wp2_with fail
        go_loopw [4, 79] (fun lv iv wr => ∃ j : Nat, j ≤ x.subs.length ∧ iv = .int .i64 j ∧ Hid (OwnB wr (w.alloc (.cells #[.slice A x.boxes.length c, .slice A2 x.subs.length c2, .int .i64 x.given] 30)).heap.size lv (M j)) ∧ Hid (Below (w.alloc (.cells #[.slice A x.boxes.length c, .slice A2 x.subs.length c2, .int .i64 x.given] 30)).heap.size (w.alloc (.cells #[.slice A x.boxes.length c, .slice A2 x.subs.length c2, .int .i64 x.given] 30)) wr)) (fun _ iv _ => x.subs.length - (intOf iv).toNat)
        case atStart => exact ⟨0, Nat.zero_le _, rfl, HO5, HB5⟩
        case round =>
          obtain ⟨j, hj, rfl, hown2, hbel2⟩ := hrel
          clear HO5 HB5 y1'
          by_cases hlt2 : j < x.subs.length
          · obtain ⟨s, hxm⟩ : ∃ s, x.subs[j]? = some s := ⟨_, List.getElem?_eq_getElem hlt2⟩
            obtain ⟨A4, c4, e0, _, hrd⟩ := HS.out
            injection e0 with e0 _ e0'
            subst e0 e0'
            obtain ⟨g, off, rfl, hg, hcell⟩ := hrd (by omega)
            have q1 := hcell j s hxm
            have hwq : Below w.heap.size w wr := H1.out.trans (hbel2.out.mono H1.out.size)
            have r1 := (hwq.cell (p := ⟨g, off + j, none⟩) hg).trans q1
            have HMj := Lib.hid (HML.out j)
            have HMs := Lib.hid (HMS.out j s hxm)
            have hsl := HSX.out s (List.mem_of_getElem? hxm)
            clear q1 hcell hrd hxm hwq
            go_wp2_with fail
            refine (text_any ⟨s.toArray⟩ _ _ wr (w.alloc (.cells #[.slice A x.boxes.length c, .slice (some ⟨g, off, none⟩) x.subs.length c2, .int .i64 x.given] 30)).heap.size hown2.out hbel2.out.size (by have := HMj.out; omega) (by show s.length ≤ 100; omega)).mono ?_
            rintro e w6 ⟨v6, rfl, ho6, he6⟩
            have HB6 := Lib.hid (hbel2.out.trans (he6.below hown2.out hbel2.out.size))
            have HO6 := Lib.hid ho6
            clear ho6 he6
            go_wp2
            exact ⟨⟨j + 1, by omega, by go_num, Lib.hid (by rw [HMs.out]; exact HO6.out), HB6⟩, by simp [intOf]; omega⟩
          · obtain rfl : j = x.subs.length := by omega
            have hcv := conv_back hown2.out
            go_wp2
            go_ret2
            exact ⟨by rw [HME.out, HE.out]; rfl, H1.out.trans (hbel2.out.mono H1.out.size)⟩
end Go.Proofs.YtiapdhllphcnnaaGreatDoor.IX
