/- What the document's field of layer 20 returns, as far as QueryNots needs it: something. Conditions: lengths. -/
import Derived.Test.YtkgngahmpafdhaaGreatDoorQNFields2
import Derived.Test.YtkgngahmpafdhaaGreatDoorPartRef2
import Derived.Test.YtkgngahmpafdhaaGreatDoorQueryFns3
import Derived.Test.YtkgngahmpafdhaaGreatDoorReg
import Derived.StillTailTactics
import Derived.Deep.Cut
namespace Go.Proofs.YtkgngahmpafdhaaGreatDoor.QN
open Go.RowKit Mailsack MM PT QU

abbrev viewR (v : QV) : Obj := .cells #[.int .i64 v.seq, .int .i64 v.uid, .int .i64 v.flags, .int .i64 v.size, strV v.text, .int .i64 v.seqs, .int .i64 v.uids] 36
def SomeB (W : World) (e : Ending) (W' : World) : Prop := (∃ b, e = .returned (.bool b)) ∧ Below W.heap.size W W'

set_option maxHeartbeats 4000000 in
set_option maxRecDepth 100000 in
theorem rfield_any (v : QV) (nm x : ByteArray) (W : World) (hg : GoodV v) (hn : nm.size ≤ 1000) (hx : x.size ≤ 1000) :
    Calls Tryz.prog 15 #[viewV v, .string nm, .string x] W (SomeB W) := by
  have HB1 := Lib.hid ((Below.refl W.heap.size W).alloc (Nat.le_refl _) (viewR v))
  have HV1 := Lib.hid (blk_new W (viewR v))
  have hl4 : (W.alloc (viewR v)).cell? ⟨W.heap.size, 4, none⟩ = some (strV v.text) := cell_blk HV1.out 4
  have ht := hg.txt
  have hsz : (⟨v.text.toArray⟩ : ByteArray).size = v.text.length := rfl
  have HS := Lib.hid (fun W' => rsplit_any ⟨v.text.toArray⟩ W' (by omega))
  have hle : splitN v.text ≤ v.text.length := splitN_le _
  unfold viewV
  go_enter Tryz.func15, Tryz.ntmps15
  go_upto_region 1 with fail
  refine wp_region_still_tail 6 (by kernel_rfl) (by kernel_rfl) ?_
  simp only [List.take_succ_cons, List.take_zero, List.drop_succ_cons, List.drop_zero]
  change wpStill _ _ (World.drew (W.alloc (viewR v))) (fun a' => wpList _ _ _ _ a' (World.drew (W.alloc (viewR v)))) _ _
  have hb2 : Below W.heap.size W (World.drew (W.alloc (viewR v))) := HB1.out.drew
  have hl5 : (World.drew (W.alloc (viewR v))).cell? ⟨W.heap.size, 4, none⟩ = some (strV v.text) := hl4
  generalize World.drew (W.alloc (viewR v)) = W2 at hb2 hl5 ⊢
  have HB2 := Lib.hid hb2
  clear hb2 hl4
  iterate 4 still_step
  still_call ((HS.out _).mono fun _ _ h => ⟨h.1, h.2.symm⟩)
  refine wpStill_step (fun K hK => ?_)
  go_simp
  refine hK _ ?_
  clear hK K
  refine wpStill_nil ?_
  change wpList _ _ _ _ _ W2
  have hsx : ((⟨v.text.toArray⟩ : ByteArray).extract 0 (splitN v.text)).size ≤ 1000 := Nat.le_trans (ex_size _ _ _) (by omega)
  generalize ((⟨v.text.toArray⟩ : ByteArray).extract 0 (splitN v.text)) = H at hsx ⊢
  clear hl5
  go_wp2_with fail
  refine (rfields_any H W2 hsx).mono ?_
  rintro e w3 ⟨A, c, F, rfl, hrd, hbd, hlF, hb3⟩
  have HB3 := Lib.hid (HB2.out.trans (hb3.mono HB2.out.size))
  have Hrd := Lib.hid hrd
  have Hbd := Lib.hid hbd
  obtain ⟨N, hN⟩ : ∃ N, F.length = N := ⟨_, rfl⟩
  have HN := Lib.hid hN
  rw [hN] at hlF Hrd ⊢
  have hc : N ≤ c := by
    obtain ⟨A', c', e1, h2, _⟩ := Hrd.out
    injection e1 with _ _ e3
    rw [hN] at h2; omega
  clear hb3 hrd hbd hN HB1 HV1
  go_wp2_with fail
  go_loopw [8] (fun iv wr => ∃ i : Nat, i ≤ N ∧ iv = .int .i64 i ∧ Hid (Below w3.heap.size w3 wr)) (fun iv _ => N - (intOf iv).toNat)
  case atStart => exact ⟨0, Nat.zero_le _, rfl, Lib.hid (Below.refl _ _)⟩
  case round =>
    obtain ⟨i, hil, rfl, hb⟩ := hrel
    by_cases hlt : i < N
    · obtain ⟨p, hp⟩ : ∃ p, F[i]? = some p := ⟨_, List.getElem?_eq_getElem (by rw [HN.out]; exact hlt)⟩
      obtain ⟨hp1, hp2⟩ := Hbd.out p (List.mem_of_getElem? hp)
      obtain ⟨A', c', e9, _, hcx⟩ := Hrd.out
      obtain ⟨g, rfl, hgb, hcell⟩ := hcx (by rw [HN.out]; omega)
      injection e9 with e9 e9b e9c
      subst e9
      clear e9b e9c
      have HC : Hid (∀ W', Below w3.heap.size w3 W' → W'.cell? ⟨g, i * 2, none⟩ = some (strV p.1) ∧ W'.cell? ⟨g, i * 2 + 1, none⟩ = some (strV p.2)) := Lib.hid fun W' h => ⟨(h.cell (p := ⟨g, i * 2, none⟩) hgb).trans (hcell i p hp).1, (h.cell (p := ⟨g, i * 2 + 1, none⟩) hgb).trans (hcell i p hp).2⟩
      have q0 := (HC.out _ hb.out).1
      have hs1 : (⟨p.1.toArray⟩ : ByteArray).size = p.1.length := rfl
      have hs2 : (⟨p.2.toArray⟩ : ByteArray).size = p.2.length := rfl
      clear hp hcx hcell
      go_wp2_with fail
      refine (small_any ⟨p.1.toArray⟩ _ (by omega)).mono ?_
      rintro e w4 ⟨rfl, hb4⟩
      have HB4 := Lib.hid (hb.out.trans (hb4.mono hb.out.size))
      clear hb4 q0
      go_wp2_with fail
      refine (small_any nm _ (by omega)).mono ?_
      rintro e w5 ⟨rfl, hb5⟩
      have HB5 := Lib.hid (HB4.out.trans (hb5.mono HB4.out.size))
      have q1 := (HC.out _ HB5.out).2
      clear hb5
      generalize lowP p.1 = l1
      generalize lowP nm.data.toList = l2
      cases hz : (l1 == l2)
      · go_wp2
        go_roundw
        case rel => exact ⟨i + 1, by omega, by go_num, HB5⟩
        case measure => first | (simp [intOf]; done) | (simp [intOf]; omega)
      · go_wp2_with fail
        refine (rhas_any ⟨p.2.toArray⟩ x _ (by omega) (by omega)).mono ?_
        rintro e w6 ⟨rfl, hb6⟩
        have HB6 := Lib.hid (HB3.out.trans ((HB5.out.trans (hb6.mono HB5.out.size)).mono HB3.out.size))
        clear hb6 q1
        go_wp2
        go_ret
        exact ⟨⟨_, rfl⟩, HB6.out⟩
    · have HB9 := Lib.hid (HB3.out.trans (hb.out.mono HB3.out.size))
      go_wp2
      go_ret
      exact ⟨⟨_, rfl⟩, HB9.out⟩
end Go.Proofs.YtkgngahmpafdhaaGreatDoor.QN
