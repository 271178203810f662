/- A message given by value, opened. No conditions but those stated. -/
import Derived.Test.YtkgngahmpafdhaaDoorOpenF
import Derived.Test.YtkgngahmpafdhaaDoorQueryMem
namespace Go.Proofs.YtkgngahmpafdhaaDoor.QU
open Go.Joins Go.ChangeShapes Go.WideShapes Go.RowKit Go.Deep MM Mailsack

set_option maxRecDepth 100000 in
theorem open_view {H : Type} {enc : TypeId × Value → H} {w : World} {base : Nat} {v : Value} {d : DataW H} {p : List MemPlace}
    (hv : Value.okWide Tryd.prog w .any base 23 v) (h : DataW.Trod enc Tryd.prog w 0 (fun _ => true) true 23 v d p) :
    ∃ x : QV, v = viewV x ∧ x.text.length ≤ 9223372036854775807 := by
  obtain ⟨cs, rfl, hl, hf⟩ := open_fields Tryd.underlying23 (by kernel_rfl) (by kernel_rfl) hv h
  obtain ⟨c0, y0, n0, e0, t0⟩ := hf 0 _ rfl
  obtain ⟨c1, y1, n1, e1, t1⟩ := hf 1 _ rfl
  obtain ⟨c2, y2, n2, e2, t2⟩ := hf 2 _ rfl
  obtain ⟨c3, y3, n3, e3, t3⟩ := hf 3 _ rfl
  obtain ⟨c4, y4, n4, e4, t4⟩ := hf 4 _ rfl
  obtain ⟨c5, y5, n5, e5, t5⟩ := hf 5 _ rfl
  obtain ⟨c6, y6, n6, e6, t6⟩ := hf 6 _ rfl
  obtain ⟨x0, r0, _⟩ := DataW.trod_int Tryd.underlying3 t0
  obtain ⟨x1, r1, _⟩ := DataW.trod_int Tryd.underlying3 t1
  obtain ⟨x2, r2, _⟩ := DataW.trod_int Tryd.underlying3 t2
  obtain ⟨x3, r3, _⟩ := DataW.trod_int Tryd.underlying3 t3
  obtain ⟨x4, r4, _, hs⟩ := DataW.trod_string Tryd.underlying9 t4
  obtain ⟨x5, r5, _⟩ := DataW.trod_int Tryd.underlying3 t5
  obtain ⟨x6, r6, _⟩ := DataW.trod_int Tryd.underlying3 t6
  injection r0 with r0; injection r1 with r1; injection r2 with r2; injection r3 with r3; injection r4 with r4; injection r5 with r5; injection r6 with r6
  subst r0 r1 r2 r3 r4 r5 r6
  unfold maxLen at hs
  refine ⟨⟨x0, x1, x2, x3, x4.data.toList, x5, x6⟩, ?_, ?_⟩
  · match cs, hl with
    | [_, _, _, _, _, _, _], _ =>
      simp at e0 e1 e2 e3 e4 e5 e6
      subst e0 e1 e2 e3 e4 e5 e6
      rfl
  · simpa using hs
end Go.Proofs.YtkgngahmpafdhaaDoor.QU
