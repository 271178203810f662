/- What a server that is not there returns. No condition. -/
/- mailsacklaw23.awake is true. Conditions: the tables of the package sha; the cell of the library's MaxLen holds some int. -/
/- mailsacklaw23.ServerNone is true of any act. Conditions: the tables of the package sha; the cell of the library's MaxLen holds some int. -/
/- The tables of the package sha out of a row's list; an act, opened. No conditions but those stated. -/
import Derived.Test.YtomnljigoljldaaGreatDoorSrvSend
import Derived.Test.YtomnljigoljldaaGreatDoorSrvKeys
import Derived.Test.YtomnljigoljldaaGreatDoorOpenF
import Derived.Lib.LaidTab

namespace Go.Proofs.YtomnljigoljldaaGreatDoor.SV
open Go.RowKit MM Mailsack

set_option maxHeartbeats 1000000 in
set_option maxRecDepth 100000 in
theorem shut_none (n : Int) (w : World) : Calls Tryz.prog 7 #[.pointer none, .int .i64 n] w fun e w' => e = .returned (.int .i64 1) ∧ w' = w := by
  go_enter Tryz.func7, Tryz.ntmps7
  go_wp2
  go_ret
  exact ⟨rfl, rfl⟩
set_option maxHeartbeats 1000000 in
set_option maxRecDepth 100000 in
theorem add_none (s t : ByteArray) (w : World) : Calls Tryz.prog 12 #[.pointer none, .string s, .string t] w fun e w' => e = .returned (.int .i64 1) ∧ w' = w := by
  go_enter Tryz.func12, Tryz.ntmps12
  go_wp2
  go_ret
  exact ⟨rfl, rfl⟩
set_option maxHeartbeats 1000000 in
set_option maxRecDepth 100000 in
theorem users_none (w : World) : Calls Tryz.prog 13 #[.pointer none] w fun e w' => e = .returned (.slice none 0 0) ∧ w' = w := by
  go_enter Tryz.func13, Tryz.ntmps13
  go_wp2
  go_ret
  exact ⟨rfl, rfl⟩
set_option maxHeartbeats 1000000 in
set_option maxRecDepth 100000 in
theorem crash_none (v : Value) (w : World) : Calls Tryz.prog 9 #[.pointer none, v] w fun e w' => e = .returned (.tuple #[]) ∧ w' = w := by
  go_enter Tryz.func9, Tryz.ntmps9
  go_wp2
  refine bodyPost_ret (results_none rfl _ _ _) rfl ?_
  exact ⟨rfl, rfl⟩
set_option maxHeartbeats 1000000 in
set_option maxRecDepth 100000 in
theorem disk_none (w : World) : Calls Tryz.prog 14 #[.pointer none] w fun e w' => e = .returned (.agg #[.slice none 0 0, .slice none 0 0]) ∧ Below w.heap.size w w' := by
  have hB := blk_new w (IM.dskO (.slice none 0 0) (.slice none 0 0))
  have f0 := cell_blk hB 0
  have f1 := cell_blk hB 1
  have y0 := free_blk hB 0
  have y1 := free_blk hB 1
  clear hB
  go_enter Tryz.func14, Tryz.ntmps14
  go_wp2
  refine bodyPost_ret (v := .agg #[.slice none 0 0, .slice none 0 0]) (by simp [results, Tryz.results14, go_sem, f0, f1]) rfl ?_
  exact ⟨rfl, (Below.refl _ _).alloc (Nat.le_refl _) _⟩
end Go.Proofs.YtomnljigoljldaaGreatDoor.SV


namespace Mailsack
theorem aw1 : readG 1 [97, 32, 78, 79] 0 [] = some ([], [97, 32, 78, 79], 0) := by decide +kernel
theorem aw2 : readG 2 [97, 32, 78, 79, 79, 80, 13, 10, 98, 32, 123, 51, 125, 13, 10] 0 [] = some ([97, 32, 79, 75, 13, 10, 43, 32, 13, 10], [98, 32, 123, 51, 125, 13, 10], 1) := by decide +kernel
end Mailsack
namespace Go.Proofs.YtomnljigoljldaaGreatDoor.SV
open Go.RowKit MM Mailsack

theorem rep_any (W : World) : Calls Tryz.prog 60 #[.string ⟨#[0]⟩, .int .i64 64] W fun e w' => e = .returned (strV (Lib.repeatL [0] 64)) ∧ Below W.heap.size W w' := by
  have := Tryz.strings_Repeat ⟨#[0]⟩ 64 W (by decide) (by decide)
  exact this
theorem one_all (a : Option Addr) (n c : Nat) : ∀ v ∈ [.slice a n c, .slice none 0 0, es, es, es, .int .i64 0, .slice none 0 0, .slice none 0 0, .int .i64 0, es, .bool false], v.oneCell' = true := by
  intro v hv
  simp only [List.mem_cons, List.not_mem_nil, or_false] at hv
  rcases hv with rfl | rfl | rfl | rfl | rfl | rfl | rfl | rfl | rfl | rfl | rfl <;> rfl
theorem map_ne {W : World} {sb mb n : Nat} {L : List (Int × Nat)} {cs : Array Value} {t : TypeId} {fr : Nat × Nat} (hs : W.heap[sb]? = some (.cells cs t fr)) (hm : OwnM W mb n L) : sb ≠ mb := by
  rintro rfl
  obtain ⟨es, clock, hb, _⟩ := hm
  rw [hs] at hb
  cases hb
theorem row_form {W : World} {B n s : Nat} {e : TypeId} {v : Value} {xs : List Value} (h : W.ownsRow B e s v n xs) : ∃ A c, v = .slice A n c := by
  rcases h.2 with ⟨h1, h2⟩ | ⟨g, cap, cur, h1, _⟩
  · exact ⟨none, 0, by rw [h1, h2]⟩
  · exact ⟨_, _, h1⟩

set_option maxHeartbeats 1000000 in
set_option maxRecDepth 100000 in
theorem awake_any (m : Int) (w : World) (hT : SH.ShaT w) (hml : w.cell? ⟨1, 0, none⟩ = some (.int .i64 m)) :
    Calls Tryz.prog 10 #[] w fun e w' => e = .returned (.bool true) ∧ Below w.heap.size w w' := by
  have gM := World.block_lt_of_cell? w _ hml
  obtain ⟨t1, f1, h1⟩ := hT.ini
  obtain ⟨t2, f2, h2⟩ := hT.rnd
  have HG : Hid (∀ i, w.heap.size ≤ i → ¬ isG i) := Lib.hid (fun i hi hg => by
    have l1 := blk_lt h1
    have l2 := blk_lt h2
    simp only at gM
    rcases hg with e | e | e <;> omega)
  have HTS := Lib.hid (fun W (h : Below w.heap.size w W) => hT.below h (Nat.le_refl _))
  have HML := Lib.hid (fun W (h : Below w.heap.size w W) => (h.cell (p := ⟨1, 0, none⟩) gM).trans hml)
  clear h1 h2 gM hT hml t1 f1 t2 f2
  go_enter Tryz.func10, Tryz.ntmps10
  go_wp2_with fail
  refine (newsrv_any _ _ _ rep_any).mono ?_
  rintro e w1 ⟨sb, mb, g, n, hn, rfl, hs, hg, hm, l1, l2, l3, hb⟩
  have hne := map_ne hs hm
  have B1 := Lib.hid hb
  have HO : Hid (Calls Tryz.prog 8 #[pt sb, .int .i64 2] w1 fun e w' => e = .returned (.tuple #[.int .i64 1, .int .i64 0]) ∧ w'.heap[sb]? = some (srvO (.slice (some ⟨g, 0, none⟩) n n) (.slice none 0 0) ⟨#[115, 101, 101, 100]⟩ 0 1 (.map (some mb))) ∧
      w'.heap[w1.heap.size]? = some (cliN (.func (.func 19) #[pt w1.heap.size] #[])) ∧ OwnM w' mb 1 [(1, w1.heap.size)] ∧ Tn (fun i => i = sb ∨ i = mb) w1 w') :=
    Lib.hid (open_read sb mb 0 _ _ _ 0 0 [] w1 hs hm hne (by omega) (by omega) (by simp) (by simp))
  have hsl := blk_lt hs
  have hml1 := hm.lt
  clear hs hg hm hb hn
  go_wp2_with fail
  refine HO.out.mono ?_
  rintro e w2 ⟨rfl, hs, hc, hm, ht⟩
  have B2 := Lib.hid (B1.out.trans (ht.below (B := w.heap.size) (fun i hi => by rcases hi with e | e <;> omega) B1.out.size))
  have hz1 : w.heap.size ≤ w1.heap.size := B1.out.size
  have hG1 := HG.out sb l1
  have hG2 := HG.out w1.heap.size hz1
  generalize w1.heap.size = cb at hc hm hz1 hG2 hsl hml1
  have HS1 := Lib.hid (send_noops sb mb cb 1 _ _ ⟨#[115, 101, 101, 100]⟩ 0 1 1 [(1, cb)] _ _ _ _ _ _ _ _ _ _ _ _ _ _ _ _ ⟨#[]⟩ ⟨#[97, 32, 78, 79]⟩ 0 1 ([], [97, 32, 78, 79], 0) m w2 hs hm (by simp) (by omega) (by omega) hc (by omega) (by omega) (Ne.symm hne) (by omega) (by decide) (by decide) (HTS.out _ B2.out) (HML.out _ B2.out) hG1 hG2 (one_all _ _ _) aw1 (by decide))
  clear hs hm hc ht HO B1
  go_wp2_with fail
  refine HS1.out.mono ?_
  rintro e w3 ⟨rfl, ⟨k', hk', hs⟩, hc, hm, ht⟩
  have B3 := Lib.hid (B2.out.trans (ht.below (B := w.heap.size) (fun i hi => by rcases hi with e | e <;> omega) B2.out.size))
  have HS2 := Lib.hid (send_noops sb mb cb 1 _ _ ⟨#[115, 101, 101, 100]⟩ k' 1 1 [(1, cb)] _ _ _ _ _ _ _ _ _ _ _ _ _ _ _ _ ⟨#[97, 32, 78, 79]⟩ ⟨#[79, 80, 13, 10, 98, 32, 123, 51, 125, 13, 10]⟩ 0 2 ([97, 32, 79, 75, 13, 10, 43, 32, 13, 10], [98, 32, 123, 51, 125, 13, 10], 1) m w3 hs hm (by simp) (by omega) (by omega) hc (by omega) (by omega) (Ne.symm hne) (by omega) (by decide) (by decide) (HTS.out _ B3.out) (HML.out _ B3.out) hG1 hG2 (one_all _ _ _) aw2 (by decide))
  clear hs hm hc ht HS1 B2
  go_wp2_with fail
  refine HS2.out.mono ?_
  rintro e w4 ⟨rfl, ⟨k2, hk2, hs⟩, hc, hm, ht⟩
  have B4 := Lib.hid (B3.out.trans (ht.below (B := w.heap.size) (fun i hi => by rcases hi with e | e <;> omega) B3.out.size))
  have HSV := Lib.hid hs
  have HMP := Lib.hid hm
  clear hs hm hc ht HS2 B3 hG1 hG2 HTS HML HG
  go_wp2_with fail
  refine (open_what sb 3 _ (by decide) (by decide)).mono ?_
  rintro e w5 ⟨rfl, hb5⟩
  have HSV5 := Lib.hid (blk_below HSV.out hb5 (blk_lt HSV.out))
  have HMP5 := Lib.hid (ownM_below HMP.out hb5 HMP.out.lt)
  have B5 := Lib.hid (B4.out.trans (hb5.mono B4.out.size))
  clear HSV HMP B4 hb5
  go_wp2_with fail
  refine (clients_any sb mb 1 _ _ _ _ _ _ _ HSV5.out HMP5.out (by simp)).mono ?_
  rintro e w6 ⟨v, rfl, hrow, hb6⟩
  obtain ⟨A, c, rfl⟩ := row_form hrow
  have B6 := Lib.hid (B5.out.trans (hb6.mono B5.out.size))
  clear HSV5 HMP5 B5 hb6 hrow
  go_wp2
  go_ret
  exact ⟨rfl, B6.out⟩
end Go.Proofs.YtomnljigoljldaaGreatDoor.SV


namespace Go.Proofs.YtomnljigoljldaaGreatDoor.SV
open Go.RowKit MM Mailsack

set_option maxHeartbeats 1000000 in
set_option maxRecDepth 100000 in
theorem serverNone_any (kind n : Int) (s : ByteArray) (m : Int) (w : World) (hT : SH.ShaT w) (hml : w.cell? ⟨1, 0, none⟩ = some (.int .i64 m)) :
    Calls Tryz.prog 4 #[.agg #[.int .i64 kind, .int .i64 n, .string s]] w fun e w' => e = .returned (.bool true) ∧ Below w.heap.size w w' := by
  have gM := World.block_lt_of_cell? w _ hml
  have HTS := Lib.hid (fun W (h : Below w.heap.size w W) => hT.below h (Nat.le_refl _))
  have HML := Lib.hid (fun W (h : Below w.heap.size w W) => (h.cell (p := ⟨1, 0, none⟩) gM).trans hml)
  have hB := blk_new w (.cells #[.int .i64 kind, .int .i64 n, .string s] 36)
  have f0 := cell_blk hB 0
  have f1 := cell_blk hB 1
  have f2 := cell_blk hB 2
  have B0 := Lib.hid ((Below.refl w.heap.size w).alloc (Nat.le_refl _) (.cells #[.int .i64 kind, .int .i64 n, .string s] 36))
  clear gM hT hml hB
  by_cases hl : 2000 < s.size
  · have hi : 2000 < (s.size : Int) := by omega
    go_enter Tryz.func4, Tryz.ntmps4
    go_wp2_with fail
    refine (awake_any m _ (HTS.out _ B0.out) (HML.out _ B0.out)).mono ?_
    rintro e w1 ⟨rfl, hb⟩
    go_wp2
    go_ret
    exact ⟨rfl, B0.out.trans (hb.mono B0.out.size)⟩
  · have hi : ¬ (2000 < (s.size : Int)) := by omega
    go_enter Tryz.func4, Tryz.ntmps4
    generalize hW : w.alloc (.cells #[.int .i64 kind, .int .i64 n, .string s] 36) = w0 at f0 f1 f2 B0
    go_wp2_with fail
    refine (open_none n _).mono ?_
    rintro e w1 ⟨rfl, rfl⟩
    go_wp2_with fail
    refine (send_none n s _).mono ?_
    rintro e w2 ⟨rfl, rfl⟩
    go_wp2_with fail
    refine (crash_none _ _).mono ?_
    rintro e w3 ⟨rfl, rfl⟩
    go_wp2_with fail
    refine (shut_none n _).mono ?_
    rintro e w4 ⟨rfl, rfl⟩
    go_wp2_with fail
    refine (add_none s _ _).mono ?_
    rintro e w5 ⟨rfl, rfl⟩
    go_wp2_with fail
    refine (clients_none _).mono ?_
    rintro e w6 ⟨rfl, rfl⟩
    go_wp2_with fail
    refine (users_none _).mono ?_
    rintro e w7 ⟨rfl, rfl⟩
    go_wp2_with fail
    refine (disk_none _).mono ?_
    rintro e w8 ⟨rfl, hb8⟩
    have B8 := Lib.hid (B0.out.trans (hb8.mono B0.out.size))
    clear hb8 B0 f0 f1 f2 hW
    have hfld : (Instr.field 44 (.agg #[.slice none 0 0, .slice none 0 0]) 0).run Tryz.prog w8 = .ok (.slice none 0 0) w8 := by rfl
    go_wp2_with fail
    refine (awake_any m _ (HTS.out _ B8.out) (HML.out _ B8.out)).mono ?_
    rintro e w9 ⟨rfl, hb9⟩
    go_wp2
    go_ret
    exact ⟨rfl, B8.out.trans (hb9.mono B8.out.size)⟩
end Go.Proofs.YtomnljigoljldaaGreatDoor.SV


namespace Go.Proofs.YtomnljigoljldaaGreatDoor.SV
open Go.Joins Go.ChangeShapes Go.WideShapes Go.RowKit Go.Deep MM Mailsack

theorem blk_of_var {W : World} {name : String} {g : Nat} {cs : Array Value} (hg : Tryz.prog.globalNamed name = some g) (h : W.var? Tryz.prog name = some cs) : ∃ t fr, W.heap[g]? = some (.cells cs t fr) := by
  unfold World.var? at h
  rw [hg] at h
  simp only [Option.bind_some] at h
  split at h
  · rename_i c t fr hw
    injection h with h
    subst h
    exact ⟨t, fr, hw⟩
  · cases h
theorem sha_of_tabs {W : World} {a b : String} (ha : Tryz.prog.globalNamed a = some 0) (hb : Tryz.prog.globalNamed b = some 2) (h1 : Lib.TabIs Tryz.prog W a .u32 initL) (h2 : Lib.TabIs Tryz.prog W b .u32 roundL) : SH.ShaT W :=
  ⟨blk_of_var ha h1, blk_of_var hb h2⟩

set_option maxRecDepth 100000 in
theorem open_act {H : Type} {enc : TypeId × Value → H} {w : World} {base : Nat} {v : Value} {d : DataW H} {p : List MemPlace}
    (hv : Value.okWide Tryz.prog w .any base 36 v) (h : DataW.Trod enc Tryz.prog w 0 (fun _ => true) true 36 v d p) :
    ∃ (k n : Int) (s : ByteArray), v = .agg #[.int .i64 k, .int .i64 n, .string s] := by
  obtain ⟨cs, rfl, hl, hf⟩ := open_fields Tryz.underlying36 (by kernel_rfl) (by kernel_rfl) hv h
  obtain ⟨c0, y0, n0, e0, t0⟩ := hf 0 _ rfl
  obtain ⟨c1, y1, n1, e1, t1⟩ := hf 1 _ rfl
  obtain ⟨c2, y2, n2, e2, t2⟩ := hf 2 _ rfl
  obtain ⟨x0, r0, _⟩ := DataW.trod_int Tryz.underlying3 t0
  obtain ⟨x1, r1, _⟩ := DataW.trod_int Tryz.underlying3 t1
  obtain ⟨x2, r2, _, hs⟩ := DataW.trod_string Tryz.underlying9 t2
  injection r0 with r0; injection r1 with r1; injection r2 with r2
  subst r0 r1 r2
  refine ⟨x0, x1, x2, ?_⟩
  match cs, hl with
  | [_, _, _], _ =>
    simp at e0 e1 e2
    subst e0 e1 e2
    rfl
end Go.Proofs.YtomnljigoljldaaGreatDoor.SV
