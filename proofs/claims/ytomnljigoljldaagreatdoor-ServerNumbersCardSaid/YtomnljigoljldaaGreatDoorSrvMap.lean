/- A server's map of clients; what server.New returns. Conditions: strings.Repeat's contract. -/
import Derived.Test.YtomnljigoljldaaGreatDoorSrvMem
import Derived.Test.YtomnljigoljldaaGreatDoorDiskNew
import Derived.Maps.OwnSet
import Derived.Lib.SlKeysI
namespace Go.Proofs.YtomnljigoljldaaGreatDoor.SV
open Go.RowKit MM Mailsack BB Go.Maps

theorem Tn.grown {P : Nat → Prop} {a b c : World} {m : Nat} (h : Tn P a b) (hg : b.grownBy c (some m)) (hm : P m) : Tn P a c :=
  h.trans ⟨hg.os, hg.tape, hg.output, hg.size, fun i hi hp => hg.block i hi (fun e => hp (by injection e with e; exact e ▸ hm))⟩
theorem wf_i64 (x : Int) (h0 : -9223372036854775808 ≤ x) (h1 : x ≤ 9223372036854775807) : (Lit.int .i64 x).wf = true := by
  have e0 : IntKind.i64.min = -9223372036854775808 := by decide
  have e1 : IntKind.i64.max = 9223372036854775807 := by decide
  simp only [Lit.wf, e0, e1, Bool.and_eq_true, decide_eq_true_eq]
  exact ⟨h0, h1⟩
/-- how a client's address reads -/
def reC : Value → Option (DataW Unit × List MemPlace)
  | .pointer none => some (.lit (.int .i64 (-1)), [])
  | .pointer (some ⟨b, 0, none⟩) => some (.lit (.int .i64 (b : Int)), [])
  | _ => none
theorem reC_inv {v : Value} {b : Nat} {ps : List MemPlace} (h : reC v = some (.lit (.int .i64 (b : Int)), ps)) : v = pt b := by
  unfold reC at h
  split at h
  · injection h with h
    injection h with h _
    injection h with h
    injection h with _ h
    omega
  · injection h with h
    injection h with h _
    injection h with h
    injection h with _ h
    have : _ = b := Int.ofNat_inj.1 h
    subst this
    rfl
  · cases h
def ents (L : List (Int × Nat)) : List (Lit × DataW Unit) := L.map fun p => (.int .i64 p.1, .lit (.int .i64 (p.2 : Int)))
def mapD (L : List (Int × Nat)) : DataW Unit := .map (ents L)
theorem same_int (a b : Int) : (Lit.int .i64 a).sameKey (.int .i64 b) = decide (a = b) := by simp [Lit.sameKey]
theorem ents_filter (L : List (Int × Nat)) (k : Int) : ((ents L).filter fun p => !p.1.sameKey (.int .i64 k)) = ents (L.filter fun p => !decide (p.1 = k)) := by
  unfold ents
  rw [List.filter_map]
  congr 1
  congr 1
  funext p
  simp [same_int, Function.comp]
theorem insert_last (x : Lit × DataW Unit) : ∀ (l : List (Lit × DataW Unit)), (∀ p ∈ l, x.1.before p.1 = false) → DataW.insert x l = l ++ [x]
  | [], _ => rfl
  | y :: r, h => by
    unfold DataW.insert
    rw [if_neg (by rw [h y (by simp)]; simp), insert_last x r (fun p hp => h p (by simp [hp]))]
    rfl
theorem mapD_put (L : List (Int × Nat)) (k : Int) (b : Nat) (h : ∀ p ∈ L, p.1 < k) : (mapD L).put (.int .i64 k) (.lit (.int .i64 (b : Int))) = mapD (L ++ [(k, b)]) := by
  show DataW.map (DataW.insert _ ((ents L).filter fun p => !p.1.sameKey (.int .i64 k))) = _
  have hf : (L.filter fun p => !decide (p.1 = k)) = L := List.filter_eq_self.2 (fun p hp => by have := h p hp; simp; omega)
  rw [ents_filter, hf, insert_last]
  · simp [mapD, ents]
  · intro p hp
    unfold ents at hp
    obtain ⟨q, hq, rfl⟩ := List.mem_map.1 hp
    have := h q hq
    simp [Lit.before]
    omega
theorem mapD_del (L : List (Int × Nat)) (k : Int) : (mapD L).del (.int .i64 k) = mapD (L.filter fun p => !decide (p.1 = k)) := by
  show DataW.map ((ents L).filter fun p => !p.1.sameKey (.int .i64 k)) = _
  rw [ents_filter]
  rfl
theorem mapD_has (L : List (Int × Nat)) (k : Int) : has (mapD L) (.int .i64 k) = L.any fun p => decide (p.1 = k) := by
  show (ents L).any (fun p => p.1.sameKey (.int .i64 k)) = _
  unfold ents
  rw [List.any_map]
  congr 1
  funext p
  simp [same_int, Function.comp]
theorem mapD_size (L : List (Int × Nat)) : size (mapD L) = L.length := by
  show (ents L).length = _
  simp [ents]
theorem mapD_keys (L : List (Int × Nat)) : intKeys (mapD L) = L.map Prod.fst := by
  show (ents L).map (fun p => intOf p.1) = _
  simp [ents, Function.comp_def, intOf]
theorem mapD_at (L : List (Int × Nat)) (k : Int) (b : Nat) (h : L.find? (fun p => decide (p.1 = k)) = some (k, b)) (z : DataW Unit) : (mapD L).atKey (.int .i64 k) z = .lit (.int .i64 (b : Int)) := by
  have e : (ents L).find? (fun p => p.1.sameKey (.int .i64 k)) = (L.find? (fun p => decide (p.1 = k))).map fun p => (.int .i64 p.1, .lit (.int .i64 (p.2 : Int))) := by
    unfold ents
    rw [List.find?_map]
    congr 1
    congr 1
    funext p
    simp [same_int, Function.comp]
  unfold mapD DataW.atKey
  simp only []
  rw [e, h]
  rfl
/-- the block mb is the map of these clients -/
abbrev OwnM (W : World) (mb n : Nat) (L : List (Int × Nat)) : Prop := World.ownsMap (H := Unit) W Tryz.prog 3 reC mb n (mapD L)
theorem ownM_tn {P : Nat → Prop} {W W' : World} {mb n : Nat} {L : List (Int × Nat)} (h : OwnM W mb n L) (ht : Tn P W W') (hp : ¬ P mb) : OwnM W' mb n L := by
  obtain ⟨es, clock, hb, r⟩ := h
  exact ⟨es, clock, ht.blk hb hp, r⟩
theorem ownM_below {B : Nat} {W W' : World} {mb n : Nat} {L : List (Int × Nat)} (h : OwnM W mb n L) (hb : Below B W W') (hB : mb < B) : OwnM W' mb n L := by
  obtain ⟨es, clock, hh, r⟩ := h
  exact ⟨es, clock, blk_below hh hb hB, r⟩
theorem keyT : Keyed Tryz.prog 3 := int_keyed Tryz.underlying3

set_option maxHeartbeats 1000000 in
set_option maxRecDepth 100000 in
theorem newsrv_any (seed : ByteArray) (z : Bs) (w : World) (hR : ∀ W, Calls Tryz.prog 60 #[.string ⟨#[0]⟩, .int .i64 64] W fun e w' => e = .returned (strV z) ∧ Below W.heap.size W w') :
    Calls Tryz.prog 5 #[.string seed] w fun e w' => ∃ sb mb g n, n = 381 ∧ e = .returned (pt sb) ∧ w'.heap[sb]? = some (srvO (.slice (some ⟨g, 0, none⟩) n n) (.slice none 0 0) seed 0 0 (.map (some mb))) ∧
      HasS w' g (List.replicate n z) ∧ OwnM w' mb 0 [] ∧ w.heap.size ≤ sb ∧ w.heap.size ≤ mb ∧ w.heap.size ≤ g ∧ Below w.heap.size w w' := by
  have HF := Lib.hid (DS.format_any z w hR)
  clear hR
  go_enter Tryz.func5, Tryz.ntmps5
  go_wp2_with fail
  refine HF.out.mono ?_
  rintro e w1 ⟨g, n, hn, rfl, hs, hg, hb⟩
  have HN := Lib.hid hn
  have HS := Lib.hid hs
  have HG := Lib.hid hg
  have HB := Lib.hid hb
  clear HF hn hs hg hb
  have hmm : (Instr.makeMap 47 none).run Tryz.prog w1 = .ok (.map (some w1.heap.size)) (w1.alloc (.map #[] 0)) := rfl
  go_wp2
  go_ret
  have hz := HB.out.size
  refine ⟨_, w1.heap.size, g, n, HN.out, rfl, two_new w1 _ _, (HS.out.alloc _).alloc _, (World.ownsMap_made w1 _ _ _).alloc _, by omega, hz, Nat.le_of_lt HG.out, (HB.out.alloc hz _).alloc (by simp; omega) _⟩
end Go.Proofs.YtomnljigoljldaaGreatDoor.SV
