/- What query.Parse returns. Conditions: lengths, and that the library's MaxLen holds some int. -/
import Derived.Test.YtkgngahmpafdhaaGreatDoorQueryParse
namespace Go.Proofs.YtkgngahmpafdhaaGreatDoor.QU
open Go.RowKit Mailsack MM PT

/-- how many words a reader has left -/
def wlen (rb : Nat) (W : World) : Nat := match W.cell? ⟨rb, 0, none⟩ with
  | some (.slice _ n _) => n
  | _ => 0
theorem wlen_eq {rb mb : Nat} {W : World} {ws : List Bs} (h : RdrAt rb mb W ws) : wlen rb W = ws.length := by
  obtain ⟨sv, h1, A, c, rfl, _⟩ := h
  unfold wlen
  rw [show W.cell? ⟨rb, 0, none⟩ = some (.slice A ws.length c) from cell_blk h1 0]
theorem keysP_nil_inv {l : List Bs} (h : keysP l.length l = some []) : l = [] := by
  cases l with
  | nil => rfl
  | cons w l =>
    exfalso
    cases hk : keyP 16 (w :: l) with
    | none => rw [keysP_none (by simp) hk] at h; cases h
    | some p =>
      obtain ⟨k, r⟩ := p
      rw [keysP_step hk] at h
      simp only [Option.map_eq_some_iff] at h
      obtain ⟨_, _, h⟩ := h
      cases h
theorem kp_bel {rb : Nat} {w w' w1 : World} (h : Below w.heap.size w w') (hk : Kp (nq rb) w' w1) (hB : w.heap.size ≤ rb) : Below w.heap.size w w1 :=
  ⟨hk.os.trans h.os, hk.tape.trans h.tape, hk.output.trans h.output, Nat.le_trans h.size hk.size, fun k hb => (hk.block k (Nat.lt_of_lt_of_le hb h.size) (fun e => by have := nq_has.1 e; omega)).trans (h.block k hb)⟩
theorem kp_blk {b rb : Nat} {w w' : World} {o : Obj} (h : w.heap[b]? = some o) (hk : Kp (nq rb) w w') (hne : b ≠ rb) : w'.heap[b]? = some o := (hk.block b (blk_lt h) (fun e => hne (nq_has.1 e))).trans h
theorem one_fn (id : Nat) (caps : Array Value) : ∀ u ∈ [Value.func (.func id) #[] caps], u.oneCell' = true := by
  intro u hu; rw [List.mem_singleton.1 hu]; rfl
/-- between two keys -/
structure PInv (w : World) (rb mb hi : Nat) (m : Int) (tab : List (Bs × Value)) (ws ws' : List Bs) (qv : Value) (kvs : List Value) (K : List QKey) (W : World) : Prop where
  tab : TabAt mb hi W kinds tab
  lo : mb < hi
  hi : hi ≤ rb
  lt : rb + 1 < W.heap.size
  max : W.cell? ⟨0, 0, none⟩ = some (.int .i64 m)
  rdr : RdrAt rb mb W ws'
  short : Short ws'
  loc : W.heap[rb + 1]? = some (.cells #[qv] 29 (0, 0))
  own : W.ownsRow (rb + 2) 44 1 qv kvs.length kvs
  klen : kvs.length = K.length
  each : ∀ (j : Nat) kv k, kvs[j]? = some kv → K[j]? = some k → PKey w.heap.size rb W qv.ownBlock kv (semQ k)
  res : W.heap[w.heap.size]? = some (.cells #[.slice none 0 0] 29 (0, 0))
  bel : Below w.heap.size w W
  low : w.heap.size < mb
  pos : 0 < w.heap.size
  all : keysP ws.length ws = (keysP ws'.length ws').map (K ++ ·)
  few : K.length + ws'.length ≤ ws.length
theorem PInv.env {w W : World} {rb mb hi : Nat} {m : Int} {tab : List (Bs × Value)} {ws ws' : List Bs} {qv : Value} {kvs : List Value} {K : List QKey} (h : PInv w rb mb hi m tab ws ws' qv kvs K W) : Env ⟨w.heap.size, rb, W.heap.size⟩ rb mb hi m tab W :=
  ⟨h.tab, h.lo, h.hi, ⟨Nat.le_refl _, by have := h.lt; show rb < W.heap.size; omega⟩, ⟨Nat.le_refl _, by have := h.lt; have := h.low; have := h.lo; have := h.hi; show w.heap.size < W.heap.size; omega⟩, ⟨h.pos, h.low⟩, h.max⟩
theorem PInv.start {w w2 : World} {m : Int} {tab : List (Bs × Value)} {ws : List Bs} {A : Option Addr} {c : Nat} (hv : RdS w w.heap.size (.slice A ws.length c) ws) (hs : Short ws) (hm : w.cell? ⟨0, 0, none⟩ = some (.int .i64 m))
    (hk : MkAt (w.alloc (.cells #[.slice none 0 0] 29)) (w.heap.size + 1) w2 25 tab) :
    PInv w w2.heap.size (w.heap.size + 1) w2.heap.size m tab ws ws (.slice none 0 0) [] [] ((w2.alloc (.cells #[.slice A ws.length c, .map (some (w.heap.size + 1))] 42)).alloc (.cells #[.slice none 0 0] 29)) := by
  have hlt := hk.tab.map.lt
  have hb2 : Below w.heap.size w w2 := ((Below.refl w.heap.size w).alloc (Nat.le_refl _) _).trans (hk.bel.mono (by simp))
  have hb4 := two_bel w2 (.cells #[.slice A ws.length c, .map (some (w.heap.size + 1))] 42) (.cells #[.slice none 0 0] 29)
  have hbw := hb2.trans (hb4.mono hb2.size)
  have hk4 := hk.kept hb4
  refine ⟨⟨hk4.tab.map, ?_, ?_⟩, hlt, Nat.le_refl _, by simp, max_at hm hbw, ⟨_, two_old _ _ _, ?_⟩, hs, two_new _ _ _, World.ownsRow_nil _ _ _ _, rfl, fun j kv k h => by simp at h, ?_, hbw, by omega, Nat.lt_of_le_of_lt (Nat.zero_le _) (World.block_lt_of_cell? w _ hm), by simp, by simp⟩
  · have := hk.tab.keys
    rw [show kinds.take 25 = kinds from rfl] at this
    exact this
  · intro j p k h1 h2
    exact (hk.tab.each j p k h1 (by rw [show kinds.take 25 = kinds from rfl]; exact h2)).kept (fun b _ h4 => hb4.block b h4)
  · exact (hv.below hbw (Nat.le_refl _)).more (by omega)
  · have h0 := blk_new w (.cells #[.slice none 0 0] 29)
    exact blk_below (blk_below h0 hk.bel (by simp)) hb4 (by omega)

theorem PInv.step {w wr w3 w4 : World} {rb mb hi g cap n1 c1 : Nat} {A1 : Option Addr} {m : Int} {tab : List (Bs × Value)} {ws r0 r1 : List Bs} {kvs : List Value} {K : List QKey} {k : QKey} {fv : Value} {o : Obj} {q : Rg}
    (hI : PInv w rb mb hi m tab ws r0 (.slice A1 n1 c1) kvs K wr) (hB3 : Below w.heap.size w w3) (hE3 : Env q rb mb hi m tab w3) (hR3 : RdrAt rb mb w3 r1) (hs1 : Short r1)
    (p3 : w3.heap[w.heap.size]? = some (.cells #[.slice none 0 0] 29 (0, 0))) (hO3 : w3.ownsRow (rb + 2) 44 1 (.slice A1 n1 c1) n1 kvs)
    (hP3 : ∀ (j : Nat) kv q, kvs[j]? = some kv → K[j]? = some q → PKey w.heap.size rb w3 (Value.slice A1 n1 c1).ownBlock kv (semQ q)) (hN3 : PKey w.heap.size rb w3 (Value.slice A1 n1 c1).ownBlock fv (semQ k))
    (hg : (w3.alloc o).grownBy w4 (Value.slice A1 n1 c1).ownBlock) (hat : (Value.slice A1 n1 c1).ownBlock = some g ∨ g = w3.heap.size + 1)
    (hown : w4.ownsRow (rb + 2) 44 1 (.slice (some ⟨g, 0, none⟩) (kvs.length + 1) cap) (kvs.length + 1) (kvs ++ [fv]))
    (l4 : w4.heap[rb + 1]? = some (.cells #[.slice A1 n1 c1] 29 (0, 0))) (hrb : rb < w3.heap.size) (hall : keysP ws.length ws = (keysP r1.length r1).map ((K ++ [k]) ++ ·)) (hless : r1.length < r0.length) :
    PInv w rb mb hi m tab ws r1 (.slice (some ⟨g, 0, none⟩) (kvs.length + 1) cap) (kvs ++ [fv]) (K ++ [k]) (w4.setCell ⟨rb + 1, 0, none⟩ (.slice (some ⟨g, 0, none⟩) (kvs.length + 1) cap)) := by
  have hlow := hI.low
  have hlo := hI.lo
  have hhi := hI.hi
  have ha : Below w3.heap.size w3 (w3.alloc o) := (Below.refl _ _).alloc (Nat.le_refl _) o
  have hb4 : Below (rb + 1) w3 w4 := ((Below.refl _ _).alloc (by omega) o).grown hg (by simp; omega) (fun k hk => by have := (World.ownsRow.lt hO3 k hk).1; omega)
  have hb5 : Below (rb + 1) w3 (w4.setCell ⟨rb + 1, 0, none⟩ (.slice (some ⟨g, 0, none⟩) (kvs.length + 1) cap)) :=
    hb4.setCell (p := ⟨rb + 1, 0, none⟩) (Nat.le_refl _) _
  have hone : ∀ kv f, PKey w.heap.size rb w3 (Value.slice A1 n1 c1).ownBlock kv f → PKey w.heap.size rb (w4.setCell ⟨rb + 1, 0, none⟩ (.slice (some ⟨g, 0, none⟩) (kvs.length + 1) cap)) (some g) kv f := fun kv f h =>
    ((h.below ha).append hg (fun g' e => by have := (World.ownsRow.lt hO3 g' e).1; omega) (hat.imp id (fun e => by rw [e]; simp))).set (.inr (.inr rfl))
  refine ⟨⟨?_, hE3.tab.keys, fun j p k h1 h2 => (hE3.tab.each j p k h1 h2).kept (fun b _ h4 => hb5.block b (by omega))⟩, hlo, hhi, ?_, (hb5.cell (p := ⟨0, 0, none⟩) (Nat.zero_lt_succ _)).trans hE3.max, ?_, hs1, blk_set l4 0 _, ?_, ?_, ?_, blk_below p3 hb5 (by omega), hB3.trans (hb5.mono (by omega)), hlow, hI.pos, hall, ?_⟩
  · obtain ⟨es, c, h1, h2⟩ := hE3.tab.map
    exact ⟨es, c, blk_below h1 hb5 (by omega), h2⟩
  · rw [size_set]; exact blk_lt l4
  · obtain ⟨sv, h1, h2⟩ := hR3
    exact ⟨sv, blk_below h1 hb5 (Nat.lt_succ_self _), h2.below hb5 (Nat.le_succ _)⟩
  · rw [List.length_append, List.length_singleton]
    exact ownsRow_setCell_below hown (a := ⟨rb + 1, 0, none⟩) (Nat.lt_succ_self _) _
  · rw [List.length_append, List.length_append, hI.klen]; rfl
  · intro j kv q' h1 h2
    have hl := hI.klen
    by_cases hj : j < kvs.length
    · rw [List.getElem?_append_left hj] at h1
      rw [List.getElem?_append_left (by omega)] at h2
      exact hone kv _ (hP3 j kv q' h1 h2)
    · rw [List.getElem?_append_right (by omega)] at h1
      rw [List.getElem?_append_right (by omega)] at h2
      have hj0 : j - kvs.length = 0 := by
        have := (List.getElem?_eq_some_iff.1 h1).1
        simp at this; omega
      rw [hj0] at h1
      rw [show j - K.length = 0 by omega] at h2
      simp only [List.getElem?_cons_zero, Option.some.injEq] at h1 h2
      subst h1 h2
      exact hone _ _ hN3
  · have := hI.few
    rw [List.length_append, List.length_singleton]
    omega

set_option maxHeartbeats 2000000 in
set_option maxRecDepth 100000 in
theorem parse_any (v : Value) (ws : List Bs) (m : Int) (w : World) (hv : RdS w w.heap.size v ws) (hs : Short ws) (hm : w.cell? ⟨0, 0, none⟩ = some (.int .i64 m)) :
    Calls Tryz.prog 6 #[v] w (QPost w (queryP ws)) := by
  obtain ⟨i0, hi0, hz0, hz1, hz2⟩ := info_parts infoK
  have HV := Lib.hid hv
  obtain ⟨A, c, rfl, hc, _⟩ := hv
  have Hm := Lib.hid hm
  have Hs := Lib.hid hs
  clear hm hs
  go_enter Tryz.func6, Tryz.ntmps6
  go_wp2_with fail
  refine (makers_any _).mono ?_
  rintro e w2 ⟨tab, rfl, hmk⟩
  rw [show (w.alloc (.cells #[.slice none 0 0] 29)).heap.size = w.heap.size + 1 by simp] at hmk ⊢
  have HI := Lib.hid (PInv.start HV.out Hs.out Hm.out hmk)
  clear hmk
  go_wp2_with fail
  go_loopw [6] (fun _ wr => ∃ (ws' : List Bs) (qv : Value) (kvs : List Value) (K : List QKey), Hid (PInv w w2.heap.size (w.heap.size + 1) w2.heap.size m tab ws ws' qv kvs K wr)) (fun _ wr => wlen w2.heap.size wr)
  case atStart => exact ⟨ws, _, [], [], HI⟩
  case round =>
    obtain ⟨ws', qv, kvs, K, hI⟩ := hrel
    clear HI
    obtain ⟨A1, c1, rfl⟩ : ∃ A c, qv = .slice A kvs.length c := by
      rcases hI.out.own.2 with ⟨h1, h2⟩ | ⟨g, cap, cur, h1, _⟩
      · exact ⟨none, 0, by rw [h1, h2]⟩
      · exact ⟨_, _, h1⟩
    obtain ⟨sv, hb, A2, c2, rfl, _, _⟩ := hI.out.rdr
    have k0 : wr.cell? ⟨w2.heap.size, 0, none⟩ = some (.slice A2 ws'.length c2) := cell_blk hb 0
    have q0 : wr.cell? ⟨w2.heap.size + 1, 0, none⟩ = some (.slice A1 kvs.length c1) := cell_blk hI.out.loc 0
    have qf : wr.frozen? ⟨w2.heap.size + 1, 0, none⟩ = false := free_blk hI.out.loc 0
    have r0 : wr.cell? ⟨w.heap.size, 0, none⟩ = some (.slice none 0 0) := cell_blk hI.out.res 0
    have rf : wr.frozen? ⟨w.heap.size, 0, none⟩ = false := free_blk hI.out.res 0
    have hlen := hI.out.klen
    have hfew := hI.out.few
    have hshort := Hs.out.1
    clear hb
    cases ws' with
    | nil =>
      have hall := hI.out.all
      rw [show keysP ([] : List Bs).length [] = some [] from rfl] at hall
      simp only [Option.map_some, List.append_nil] at hall
      by_cases hK : K = []
      · subst hK
        have hkv : kvs = [] := List.length_eq_zero_iff.1 hlen
        subst hkv
        have Hq : Hid (queryP ws = none) := Lib.hid (by unfold queryP; rw [if_pos (keysP_nil_inv hall)])
        have rr : (wr.setCell ⟨w.heap.size, 0, none⟩ (.slice none 0 0)).cell? ⟨w.heap.size, 0, none⟩ = some (.slice none 0 0) := cell_blk (blk_set hI.out.res 0 (.slice none 0 0)) 0
        have HB := Lib.hid (hI.out.bel.setCell (p := ⟨w.heap.size, 0, none⟩) (Nat.le_refl _) (.slice none 0 0))
        clear hall hlen
        go_wp2
        refine bodyPost_ret (v := .tuple #[.agg #[.slice none 0 0], .int .i64 3]) (by simp [results, Tryz.results6, go_sem, rr]) rfl ?_
        rw [Hq.out]
        exact ⟨HB.out, rfl⟩
      · have hpos : 0 < kvs.length := by rw [hlen]; exact List.length_pos_iff.2 hK
        have Hq : Hid (queryP ws = some K) := Lib.hid (by
          unfold queryP
          rw [if_neg (fun e => by rw [e] at hall; simp [keysP] at hall; exact hK hall), hall])
        have h0b : ((kvs.length : Int) == 0) = false := by rw [beq_eq_false_iff_ne]; omega
        have rr : (wr.setCell ⟨w.heap.size, 0, none⟩ (.slice A1 kvs.length c1)).cell? ⟨w.heap.size, 0, none⟩ = some (.slice A1 kvs.length c1) := cell_blk (blk_set hI.out.res 0 (.slice A1 kvs.length c1)) 0
        have HB := Lib.hid (hI.out.bel.setCell (p := ⟨w.heap.size, 0, none⟩) (Nat.le_refl _) (.slice A1 kvs.length c1))
        have HKs : Hid (KeysAt w.heap.size (wr.setCell ⟨w.heap.size, 0, none⟩ (.slice A1 kvs.length c1)) (.slice A1 kvs.length c1) kvs K) := Lib.hid
          ⟨SP.row_less (ownsRow_setCell_below hI.out.own (a := ⟨w.heap.size, 0, none⟩) (by have := hI.out.low; have := hI.out.lo; have := hI.out.hi; show w.heap.size < w2.heap.size + 2; omega) _) (by have := hI.out.low; have := hI.out.lo; have := hI.out.hi; omega), hlen, fun j kv k h1 h2 => ((hI.out.each j kv k h1 h2).set (.inl rfl)).now⟩
        clear hall hlen
        go_wp2
        refine bodyPost_ret (v := .tuple #[.agg #[.slice A1 kvs.length c1], .int .i64 0]) (by simp [results, Tryz.results6, go_sem, rr]) rfl ?_
        rw [Hq.out]
        exact ⟨HB.out, _, kvs, rfl, HKs.out⟩
    | cons x r =>
      have hlow := hI.out.low
      have hlo := hI.out.lo
      have hhi := hI.out.hi
      have E := key_any ⟨w.heap.size, w2.heap.size, wr.heap.size⟩ w2.heap.size (w.heap.size + 1) w2.heap.size m tab 16 wr (x :: r) 1 (by decide) hI.out.env hI.out.rdr hI.out.short
      rw [show ((1 : Nat) : Int) = 1 from rfl] at E
      have hall := hI.out.all
      cases hk : keyP 16 (x :: r) with
      | none =>
        rw [hk] at E
        rw [keysP_none (by simp) hk] at hall
        have Hq : Hid (queryP ws = none) := Lib.hid (by unfold queryP; split; rfl; exact hall)
        have E1 := Lib.hid E
        clear E hk hall
        go_wp2_with fail
        refine E1.out.mono ?_
        rintro e w3 ⟨hk3, v, hv, rfl⟩
        have p3 := Lib.hid (kp_blk hI.out.res hk3 (by omega))
        have r3 : w3.cell? ⟨w.heap.size, 0, none⟩ = some (.slice none 0 0) := cell_blk p3.out 0
        have rf3 : w3.frozen? ⟨w.heap.size, 0, none⟩ = false := free_blk p3.out 0
        have rr : (w3.setCell ⟨w.heap.size, 0, none⟩ (.slice none 0 0)).cell? ⟨w.heap.size, 0, none⟩ = some (.slice none 0 0) := cell_blk (blk_set p3.out 0 (.slice none 0 0)) 0
        have HB := Lib.hid ((kp_bel hI.out.bel hk3 (by omega)).setCell (p := ⟨w.heap.size, 0, none⟩) (Nat.le_refl _) (.slice none 0 0))
        clear hk3
        go_wp2
        refine bodyPost_ret (v := .tuple #[.agg #[.slice none 0 0], .int .i64 3]) (by simp [results, Tryz.results6, go_sem, rr]) rfl ?_
        rw [Hq.out]
        exact ⟨HB.out, rfl⟩
      | some p =>
        obtain ⟨k, r1⟩ := p
        rw [hk] at E
        have hless := keyP_less 16 (x :: r) k r1 hk
        have hsh := keyP_short 16 (x :: r) k r1 hk hI.out.short
        rw [keysP_step hk] at hall
        have hkl : kvs.length ≤ 1000 := by rw [List.length_cons] at hfew; omega
        have Hlen := Lib.hid hlen
        have Hfew := Lib.hid hfew
        have Hless := Lib.hid hless
        clear hlen hfew hless
        have Hall : Hid (keysP ws.length ws = (keysP r1.length r1).map ((K ++ [k]) ++ ·)) := Lib.hid (by rw [hall, Option.map_map]; congr 1; funext l; simp)
        have E1 := Lib.hid E
        clear E hk hall
        go_wp2_with fail
        refine E1.out.mono ?_
        rintro e w3 ⟨hk3, v, rfl, hkey, hr3⟩
        have HKey := Lib.hid hkey
        obtain ⟨id, caps, rfl, _⟩ := hkey
        have hz3 := hk3.size
        have p3 := Lib.hid (kp_blk hI.out.res hk3 (by omega))
        have l3 := Lib.hid (kp_blk hI.out.loc hk3 (by omega))
        have q3 : w3.cell? ⟨w2.heap.size + 1, 0, none⟩ = some (.slice A1 kvs.length c1) := cell_blk l3.out 0
        have HB3 := Lib.hid (kp_bel hI.out.bel hk3 (by omega))
        have HE3 := Lib.hid (hI.out.env.kept (hk3.widen (.inr hI.out.env.inr)))
        have HR3 := Lib.hid hr3
        have hlt := hI.out.lt
        have HO3 : Hid (w3.ownsRow (w2.heap.size + 2) 44 1 (.slice A1 kvs.length c1) kvs.length kvs) := Lib.hid (by
          refine ⟨hI.out.own.1, ?_⟩
          rcases hI.out.own.2 with hn | ⟨g, cap, cur, h1, h2, h3, h4⟩
          · exact .inl hn
          · exact .inr ⟨g, cap, cur, h1, h2, kp_blk h3 hk3 (by omega), h4⟩)
        have HP3 : Hid (∀ (j : Nat) kv q, kvs[j]? = some kv → K[j]? = some q → PKey w.heap.size w2.heap.size w3 (Value.slice A1 kvs.length c1).ownBlock kv (semQ q)) := Lib.hid (fun j kv q h1 h2 => by
          obtain ⟨top, w0, g1, g2, g3, g4⟩ := hI.out.each j kv q h1 h2
          exact ⟨top, w0, g1.trans (hk3.widen (.inr ⟨Nat.le_refl _, by show w2.heap.size < top; omega⟩)), g2, g3, g4⟩)
        have HN3 : Hid (PKey w.heap.size w2.heap.size w3 (Value.slice A1 kvs.length c1).ownBlock (.func (.func id) #[] caps) (semQ k)) := Lib.hid
          ⟨wr.heap.size, w3, Kp.refl _ _, HKey.out, by omega, fun g e => .inl (World.ownsRow.lt hI.out.own g e).2⟩
        clear hk3 hr3 q0 qf r0 rf
        go_wp2_with (at_builtin; refine wpList_append_lies _ rfl _ _ 27 rfl (w2.heap.size + 2) 44 i0 .nilFunc 1 8 Tryz.underlying27 hi0 hz0 hz1 hz2 rfl (by decide) _ _ _ rfl (World.ownsRow.alloc HO3.out _) ⟨w3.heap.size, 0, none⟩ 1 1 [.func (.func id) #[] caps] rfl rfl (cell_one_new _ _ _) (one_fn _ _) (by decide) (by unfold maxLen; omega) (by omega) (by simp; omega) (w3.heap.size + 1) (by simp) ?_; intro g cap w4 hown4 hgrow hat hlt4; have l4 := Lib.hid (blk_grown (blk_alloc l3.out _) hgrow (fun e => by have := (World.ownsRow.lt HO3.out _ e.symm).1; omega)); have q4 : w4.cell? ⟨w2.heap.size + 1, 0, none⟩ = some (.slice A1 kvs.length c1) := cell_blk l4.out 0; have f4 : w4.frozen? ⟨w2.heap.size + 1, 0, none⟩ = false := free_blk l4.out 0; have Hown4 := Lib.hid hown4; have Hgrow := Lib.hid hgrow; have Hat := Lib.hid hat; clear hown4 hgrow hat)
        have hfin := PInv.step hI.out HB3.out HE3.out HR3.out hsh p3.out HO3.out HP3.out HN3.out Hgrow.out Hat.out Hown4.out l4.out (by omega) Hall.out Hless.out
        refine ⟨⟨r1, _, _, _, Lib.hid hfin⟩, ?_⟩
        rw [wlen_eq hfin.rdr, wlen_eq hI.out.rdr]
        exact Hless.out
end Go.Proofs.YtkgngahmpafdhaaGreatDoor.QU
