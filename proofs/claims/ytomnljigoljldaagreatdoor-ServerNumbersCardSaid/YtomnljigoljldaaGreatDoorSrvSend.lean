/- What server.Send returns where all that comes whole is NOOP, and what it turns. Conditions: the server's, the map's and the client's block; lengths; tables. -/
import Derived.Test.YtomnljigoljldaaGreatDoorSrvRead
import Derived.Test.YtomnljigoljldaaGreatDoorSrvOpen
import Derived.Test.YtomnljigoljldaaGreatDoorShelfI
namespace Go.Proofs.YtomnljigoljldaaGreatDoor.SV
open Go.RowKit MM Mailsack BB Go.Maps

set_option maxHeartbeats 1000000 in
set_option maxRecDepth 100000 in
theorem send_none (kind : Int) (s : ByteArray) (w : World) : Calls Tryz.prog 11 #[.pointer none, .int .i64 kind, .string s] w fun e w' => e = .returned (.tuple #[.string ⟨#[]⟩, .int .i64 1]) ∧ w' = w := by
  go_enter Tryz.func11, Tryz.ntmps11
  go_wp2
  go_ret2
  exact ⟨rfl, rfl⟩
set_option maxHeartbeats 1000000 in
set_option maxRecDepth 100000 in
theorem clone_any (s : ByteArray) (w : World) (hs : s.size ≤ 1000000) : Calls Tryz.prog 22 #[.string s] w fun e w' => e = .returned (.string s) ∧ Below w.heap.size w w' := by
  go_enter Tryz.func22, Tryz.ntmps22
  go_wp2_with fail
  refine (Any.stringslite_Clone Tryz.laysClone s _ (by omega)).mono ?_
  rintro e w1 ⟨rfl, hb⟩
  go_wp2
  go_ret
  exact ⟨rfl, hb⟩
set_option maxRecDepth 100000 in
theorem zeroC (w : World) : (zeroValue 54).run Tryz.prog w = .ok (.pointer none) w := by rfl

set_option maxHeartbeats 1000000 in
set_option maxRecDepth 100000 in
theorem send_noops (sb mb cb n : Nat) (d0 d1 : Value) (seed : ByteArray) (k : Nat) (last nn : Int) (L : List (Int × Nat)) (m0 m1 m2 m3 m4 m5 m6 r0 r1 r2 r3 r4 r5 r6 r7 r8 : Value) (wt s : ByteArray) (an : Int) (fuel : Nat) (res : Bs × Bs × Int) (m : Int) (w : World)
    (hs : w.heap[sb]? = some (srvO d0 d1 seed k last (.map (some mb)))) (hm : OwnM w mb n L) (hf : L.find? (fun p => decide (p.1 = nn)) = some (nn, cb)) (hnn0 : 0 ≤ nn) (hnn1 : nn ≤ 1000000)
    (hc : w.heap[cb]? = some (cliO wt an m0 m1 m2 m3 m4 m5 m6 r0 r1 r2 r3 r4 r5 r6 r7 r8 (.bool false) false (.func (.func 19) #[pt cb] #[])))
    (hne : sb ≠ cb) (hmc : mb ≠ cb) (hms : mb ≠ sb) (hk : k + fuel ≤ 99) (hseed : seed.size ≤ 1000) (hwt : (wt ++ s).size ≤ 100000) (hT : SH.ShaT w)
    (hml : w.cell? ⟨1, 0, none⟩ = some (.int .i64 m)) (hgs : ¬ isG sb) (hgc : ¬ isG cb)
    (hone : ∀ v ∈ [d0, d1, r0, r1, r2, r3, r4, r5, r6, r7, r8], v.oneCell' = true) (hG : readG fuel (wt ++ s).data.toList an [] = some res) (hr2 : res.2.1.length ≤ 1000000) :
    Calls Tryz.prog 11 #[pt sb, .int .i64 nn, .string s] w fun e w' => e = .returned (.tuple #[strV res.1, .int .i64 0]) ∧
      (∃ k' : Nat, k' ≤ k + fuel ∧ w'.heap[sb]? = some (srvO d0 d1 seed k' last (.map (some mb)))) ∧ w'.heap[cb]? = some (cliO ⟨res.2.1.toArray⟩ res.2.2 m0 m1 m2 m3 m4 m5 m6 r0 r1 r2 r3 r4 r5 r6 r7 r8 (.bool false) false (.func (.func 19) #[pt cb] #[])) ∧ OwnM w' mb n L ∧ Tn (fun i => i = sb ∨ i = cb) w w' := by
  have hslt := blk_lt hs
  have hclt := blk_lt hc
  obtain ⟨v, ps, hlook, hv⟩ := hm.look_ok keyT Tryz.underlying47 (zeroC w) (zd := .lit (.int .i64 (-1))) (zp := []) rfl (keyOf_int_mk Tryz.underlying3 (wf_i64 nn (by omega) (by omega)))
  rw [mapD_at L nn cb hf] at hv
  obtain rfl := reC_inv hv
  have hhas : has (mapD L) (.int .i64 nn) = true := by
    rw [mapD_has, List.any_eq_true]
    exact ⟨(nn, cb), List.mem_of_find?_eq_some hf, by simp⟩
  rw [hhas] at hlook
  have c5 := cell_blk hs 5
  have k0 := cell_blk hc 0
  have y0 := free_blk hc 0
  have nb : ¬ (9223372036854775807 < wt.size + s.size) := by rw [ByteArray.size_append] at hwt; omega
  have HC1 := Lib.hid (blk_set hc 0 (.string (wt ++ s)))
  have HS1 := Lib.hid (blk_far hs (p := ⟨cb, 0, none⟩) hne (.string (wt ++ s)))
  have HM1 := Lib.hid (hm.setCell (a := ⟨cb, 0, none⟩) hmc (.string (wt ++ s)))
  have HT1 := Lib.hid (Tn.set (P := fun i => i = sb ∨ i = cb) (Tn.refl _ w) (p := ⟨cb, 0, none⟩) (.inl (.inr rfl)) (.string (wt ++ s)))
  have HML := Lib.hid (show (w.setCell ⟨cb, 0, none⟩ (.string (wt ++ s))).cell? ⟨1, 0, none⟩ = some (.int .i64 m) from (World.cell?_of_block (Below.heap_setCell w ⟨cb, 0, none⟩ _ _ (fun e => hgc (.inl e.symm)))).trans hml)
  have HSH := Lib.hid (sha_tn hT HT1.out (fun i hi hg => by rcases hi with e | e; exact hgs (e ▸ hg); exact hgc (e ▸ hg)))
  go_enter Tryz.func11, Tryz.ntmps11
  clear hm
  go_upto_region 7 with fail
  generalize w.setCell ⟨cb, 0, none⟩ (.string (wt ++ s)) = w1 at HC1 HS1 HM1 HT1 HML HSH ⊢
  simp only [List.setIfInBounds_toArray, List.set_cons_zero] at HC1
  have HR := Lib.hid (read_noops sb cb d0 d1 (.map (some mb)) seed k last m0 m1 m2 m3 m4 m5 m6 r0 r1 r2 r3 r4 r5 r6 r7 r8 (.func (.func 19) #[pt cb] #[]) (wt ++ s) an fuel res m w1 HS1.out HC1.out hne hk hseed hwt HSH.out HML.out hgs hgc hone hG)
  have k20 := cell_blk HC1.out 20
  clear hT hml hone hG c5 k0 y0 nb hs hc hlook hv hhas
  go_wp2_with fail
  refine HR.out.mono ?_
  rintro e w2 ⟨rfl, ⟨k', hk', hs2⟩, hc2, ht2⟩
  have HS2 := Lib.hid hs2
  have HC2 := Lib.hid hc2
  have HT2 := Lib.hid (HT1.out.trans ht2)
  have HM2 := Lib.hid (ownM_tn HM1.out ht2 (fun e => by rcases e with e | e; exact hms e; exact hmc e))
  have HCL := Lib.hid (fun W => clone_any ⟨res.2.1.toArray⟩ W hr2)
  have HKK := Lib.hid hk'
  have e0 := cell_blk hc2 0
  have e19 := cell_blk hc2 19
  clear HR hs2 hc2 ht2 HS1 HC1 HT1 HM1 HML HSH k20 hk'
  obtain ⟨o, rest, an2⟩ := res
  simp only at HS2 HC2 HT2 HM2 HCL e0 e19 hr2 ⊢
  go_wp2_with fail
  refine (HCL.out _).mono ?_
  rintro e w3 ⟨rfl, hb3⟩
  have HS3 := Lib.hid (blk_below HS2.out hb3 (blk_lt HS2.out))
  have HC3 := Lib.hid (blk_below HC2.out hb3 (blk_lt HC2.out))
  have HT3 := Lib.hid (HT2.out.call hb3)
  have HM3 := Lib.hid (ownM_below HM2.out hb3 HM2.out.lt)
  have y0 := free_blk HC3.out 0
  have f0 := cell_blk HC3.out 0
  clear hb3 HS2 HC2 HT2 HM2 HCL e0 e19
  go_wp2
  go_ret2
  have hset := blk_set HC3.out 0 (.string ⟨rest.toArray⟩)
  exact ⟨rfl, ⟨k', HKK.out, blk_far HS3.out (p := ⟨cb, 0, none⟩) hne _⟩, hset, HM3.out.setCell (a := ⟨cb, 0, none⟩) hmc _, HT3.out.set (p := ⟨cb, 0, none⟩) (.inl (.inr rfl)) _⟩
end Go.Proofs.YtomnljigoljldaaGreatDoor.SV
