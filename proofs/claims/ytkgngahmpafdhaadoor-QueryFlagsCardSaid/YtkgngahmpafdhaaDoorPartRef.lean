/- What the document's functions of layer 19 return: Small, Has, Split, Rows. Conditions: lengths. -/
import Derived.Test.YtkgngahmpafdhaaDoorPartSmall
import Derived.Deep.AppendLies
import Derived.Deep.DeepCutAuto
namespace Go.Proofs.YtkgngahmpafdhaaDoor.PT
open Go.RowKit Mailsack MM

/-- a row of bytes that the call owns -/
def OwnB (w : World) (base : Nat) (v : Value) (l : Bs) : Prop := w.ownsRow base 5 1 v l.length (l.map fun c => Value.int .u8 c.toNat)
theorem OwnB.nil (w : World) (base : Nat) : OwnB w base (.slice none 0 0) [] := World.ownsRow_nil w base _ _
theorem OwnB.of {w : World} {base : Nat} {v : Value} {l : Bs} {c : UInt8} (h : w.ownsRow base 5 1 v (l.length + 1) (l.map (fun c => Value.int .u8 c.toNat) ++ [.int .u8 c.toNat])) : OwnB w base v (l ++ [c]) := by
  unfold OwnB; rw [List.length_append, List.map_append]; exact h
theorem OwnB.alloc {w : World} {base : Nat} {v : Value} {l : Bs} (h : OwnB w base v l) (o : Obj) : (w.alloc o).ownsRow base 5 1 v l.length (l.map fun c => Value.int .u8 c.toNat) := World.ownsRow.alloc h o
theorem OwnB.form {w : World} {base : Nat} {v : Value} {l : Bs} (h : OwnB w base v l) : ∃ A c, v = .slice A l.length c ∧ l.length ≤ c := by
  rcases h.2 with ⟨h1, h2⟩ | ⟨g, cap, cur, h1, _, _, h2, _⟩
  · exact ⟨none, 0, by rw [h1, h2], by omega⟩
  · exact ⟨_, _, h1, h2⟩
theorem lowTo_step {s : ByteArray} {k : Nat} (h : k < s.size) : lowP (s.data.toList.take (k + 1)) = lowP (s.data.toList.take k) ++ [low (s.data.toList.getD k 0)] := by
  have h' : k < s.data.toList.length := by rw [size_list]; exact h
  unfold lowP
  rw [List.take_succ_eq_append_getElem h', List.map_append, List.getD_eq_getElem?_getD, List.getElem?_eq_getElem h']
  rfl
theorem one_u8 (n : Int) : ∀ u ∈ [Value.int .u8 n], u.oneCell' = true := by
  intro u hu; rw [List.mem_singleton.1 hu]; rfl

theorem push_row {E : TypeId} {size : Nat} {w w2 w1 : World} {B n : Nat} {tv : Value} {xs : List Value} {o : Obj} (hT : w2.ownsRow B E size tv n xs) (hg : (w2.alloc o).grownBy w1 tv.ownBlock) (hb : Below B w w2) (hB : B ≤ w2.heap.size) : Below B w w1 :=
  (hb.alloc hB o).grown hg (by simp; omega) (fun k hk => (World.ownsRow.lt hT k hk).1)
theorem conv_back {w : World} {base : Nat} {v : Value} {l : Bs} (h : OwnB w base v l) : (convert 64 9 v).run Tryd.prog w = .ok (strV l) w := by
  rcases h.2 with ⟨h1, h2⟩ | ⟨g, cap, cur, h1, _, _, h2, _⟩
  · have : l = [] := List.eq_nil_of_length_eq_zero h2
    subst this
    have h0 : ∀ W : World, (convert 64 9 (.slice none 0 0)).run Tryd.prog W = .ok (.string ⟨#[]⟩) W := fun _ => by kernel_rfl
    rw [h1]
    exact h0 w
  · rw [h1]
    refine run_convert_bytes_back w _ _ 5 ⟨g, 0, none⟩ cap l Tryd.underlying64 Tryd.underlying5 Tryd.underlying9 (fun j hj => ?_)
    exact World.ownsRow.cells h (g := g) (by rw [h1]; rfl) j _ (by simp [hj])

theorem infoU8 : (Tryd.prog.info? 5).map (fun i => (i.zero, i.size, i.bytes)) = some (some (.int .u8 0), 1, 1) := by kernel_rfl

end Go.Proofs.YtkgngahmpafdhaaDoor.PT
