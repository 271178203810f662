/- What server.Clients returns: the numbers of the clients, rising. Conditions: the server's block and its map. -/
import Derived.Test.YtomnljigoljldaaGreatDoorSrvMap
import Derived.Test.YtomnljigoljldaaGreatDoorShelfI
import Derived.Shelf.SlIterI.Nil
import Derived.Shelf.SortM.Plain
import Derived.Shelf.SortM.SortNone
namespace Go.Proofs.YtomnljigoljldaaGreatDoor.SV
open Go.RowKit MM Mailsack BB Go.Maps Go.Sort Go.Shelf

theorem sortsA (m : Nat) : AnyZI.SortsIn Tryz.prog Tryz.sortedA_ren Fence.wide m :=
  ⟨fun blk off cap ss W hH hblk hsz => callsIn_wide.2 (AnyM.slices_Sort_int Tryz.sortA blk off cap ss W hH hblk hsz),
   fun p cap W => callsIn_wide.2 (AnyM.slices_Sort_int_none Tryz.sortA p cap W)⟩

set_option maxHeartbeats 1000000 in
set_option maxRecDepth 100000 in
theorem clients_none (w : World) : Calls Tryz.prog 6 #[.pointer none] w fun e w' => e = .returned (.slice none 0 0) ∧ w' = w := by
  go_enter Tryz.func6, Tryz.ntmps6
  go_wp2
  go_ret
  exact ⟨rfl, rfl⟩

set_option maxHeartbeats 1000000 in
set_option maxRecDepth 100000 in
theorem clients_any (sb mb n : Nat) (d0 d1 : Value) (seed : ByteArray) (k last : Int) (L : List (Int × Nat)) (w : World) (hs : w.heap[sb]? = some (srvO d0 d1 seed k last (.map (some mb)))) (hown : OwnM w mb n L) (hL : L.length ≤ 1000) :
    Calls Tryz.prog 6 #[pt sb] w fun e w' => ∃ v, e = .returned v ∧ w'.ownsRow w.heap.size 3 1 v L.length (((L.map Prod.fst).mergeSort leI).map encZ) ∧ Below w.heap.size w w' := by
  refine (callsIn_wide (n := 6)).1 ?_
  have hbl := hown.lt
  have c5 := cell_blk hs 5
  have hmax : size (mapD L) ≤ maxLen := by rw [mapD_size]; unfold maxLen; omega
  have hbytes : size (mapD L) * 8 ≤ 140737488355328 := by rw [mapD_size]; omega
  have hseq : SeqGives Fence.wide 2 Tryz.prog 32 #[.pointer (some ⟨w.heap.size, 0, none⟩)] encZ (fun ss => ss.Perm (intKeys (mapD L))) (Maps.size (mapD L)) (w.alloc (.cells #[.map (some mb)] 47)) :=
    AnyZI.keys_gives (ρ := Tryz.keysA_ren) { Tryz.keysA with } Fence.wide _ trivial rfl (by omega) w.heap.size mb n (mapD L) _ (by simp) (by simp) (by
      obtain ⟨es, clock, hb, Ft, hs, hD⟩ := hown
      exact ⟨es, clock, (Below.heap_alloc _ _ mb hbl).trans hb, Ft, hs, hD⟩)
  have cK : ∀ mq W, CallsIn Fence.wide 5 Tryz.prog 17 #[.map mq] W fun e w' => e = .returned (.func (.func 32) #[] #[.pointer (some ⟨W.heap.size, 0, none⟩)]) ∧ w' = W.alloc (.cells #[.map mq] 47) := fun mq W => AnyZI.keys_in Tryz.keysA Fence.wide 5 trivial rfl mq W
  have cS := AnyZI.sorted_in Tryz.sortedA Fence.wide 5 trivial trivial trivial trivial rfl (by omega) (sortsA _) (enters_of Tryz.func31 (by kernel_rfl) rfl) 32 #[.pointer (some ⟨w.heap.size, 0, none⟩)] trivial (enters_of Tryz.func32 (by kernel_rfl) rfl) _ _ hmax hbytes _ hseq
  change CallsIn _ _ Tryz.prog 16 _ _ _ at cS
  have hfK : Fence.wide.fn 17 := trivial
  have hfS : Fence.wide.fn 16 := trivial
  have HK := Lib.hid hown
  clear hown hseq
  refine callsIn_of_wp Tryz.func6 rfl trivial ?_ rfl
  simp only [Tryz.ntmps6, List.size_toArray, List.length_cons, List.length_nil, Nat.reduceAdd, Nat.reduceSub, Array.replicate_succ, Array.replicate_zero, List.push_toArray, List.append_toArray, List.nil_append, List.cons_append]
  gi_wp2_with (first
    | (gi_at_call 17; refine (cK _ _).mono ?_; rintro e w' ⟨rfl, rfl⟩)
    | (gi_at_call 16; refine cS.mono ?_; rintro e w' ⟨v, ss, rfl, hS, hrow, hnil, hb⟩))
  go_ret
  have hp : ss.mergeSort (fun x y => decide (x ≤ y)) = (L.map Prod.fst).mergeSort leI := by
    have := mergeSort_of_perm_i hS
    rw [mapD_keys] at this
    exact this
  have hlen : ss.length = L.length := by
    have := hS.length_eq
    rw [mapD_keys] at this
    simpa using this
  rw [hp, hlen] at hrow
  exact ⟨v, rfl, ownsRow_base_a hrow (by simp), ((Below.refl _ w).alloc (Nat.le_refl _) _).trans (hb.mono (by simp))⟩
end Go.Proofs.YtomnljigoljldaaGreatDoor.SV
