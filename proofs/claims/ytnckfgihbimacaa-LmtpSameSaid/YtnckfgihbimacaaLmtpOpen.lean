/- An argument that is a state of layer 18, opened. No conditions but those stated. -/
import Derived.Test.YtnckfgihbimacaaOpenS
import Derived.Test.YtnckfgihbimacaaOpenF
import Derived.Test.YtnckfgihbimacaaLmtpSmall
namespace Go.Proofs.Ytnckfgihbimacaa.LM
open Go.ChangeShapes Go.WideShapes Go.ChangeAt Go.RowKit Mailsack MM

theorem list_bytes (s : ByteArray) : Value.string s = strV s.data.toList := by cases s; rfl
theorem open_state {H : Type} {enc : TypeId × Value → H} {w : World} {base : Nat} {v : Value} {d : DataW H} {p : List MemPlace}
    (hv : Value.okWide Try.prog w .any base 25 v) (h : DataW.Trod enc Try.prog w 0 (fun _ => true) true 25 v d p) :
    ∃ (s : LSt) (A : Option Addr) (c : Nat), v = stV s (.slice A s.to.length c) ∧ RdS w w.heap.size (.slice A s.to.length c) s.to ∧ s.to.length ≤ 9223372036854775807 ∧ s.body.length ≤ 9223372036854775807 ∧ s.frm.length ≤ 9223372036854775807 := by
  obtain ⟨cs, rfl, hl, hf⟩ := open_fields Try.underlying25 (by kernel_rfl) (by kernel_rfl) hv h
  obtain ⟨c0, y0, n0, e0, t0⟩ := hf 0 _ rfl
  obtain ⟨c1, y1, n1, e1, t1⟩ := hf 1 _ rfl
  obtain ⟨c2, y2, n2, e2, t2⟩ := hf 2 _ rfl
  obtain ⟨c3, y3, n3, e3, t3⟩ := hf 3 _ rfl
  obtain ⟨c4, y4, n4, e4, t4⟩ := hf 4 _ rfl
  obtain ⟨c5, y5, n5, e5, t5⟩ := hf 5 _ rfl
  obtain ⟨c6, y6, n6, e6, t6⟩ := hf 6 _ rfl
  obtain ⟨b0, r0, _⟩ := DataW.trod_bool Try.underlying4 t0
  obtain ⟨b1, r1, _⟩ := DataW.trod_bool Try.underlying4 t1
  obtain ⟨b2, r2, _⟩ := DataW.trod_bool Try.underlying4 t2
  obtain ⟨b3, r3, _⟩ := DataW.trod_bool Try.underlying4 t3
  obtain ⟨s4, r4, _, m4⟩ := DataW.trod_string Try.underlying9 t4
  obtain ⟨s5, r5, _, m5⟩ := DataW.trod_string Try.underlying9 t5
  obtain ⟨xs, hx, _, hxn⟩ := open_rds_at Try.underlying22 Try.underlying9 (by kernel_rfl) t6
  obtain ⟨A, c, rfl, h1, h2⟩ := hx
  injection r0 with r0; injection r1 with r1; injection r2 with r2; injection r3 with r3; injection r4 with r4; injection r5 with r5
  subst r0 r1 r2 r3 r4 r5
  have hcs : cs = [.bool b0, .bool b1, .bool b2, .bool b3, .string s4, .string s5, .slice A xs.length c] := by
    match cs, hl with
    | [_, _, _, _, _, _, _], _ =>
      simp at e0 e1 e2 e3 e4 e5 e6
      subst e0 e1 e2 e3 e4 e5 e6
      rfl
  subst hcs
  unfold maxLen at m4 m5
  exact ⟨⟨b0, b1, b2, b3, s4.data.toList, s5.data.toList, xs⟩, A, c, by rw [list_bytes s4, list_bytes s5], ⟨A, c, rfl, h1, h2⟩, hxn, by rw [Array.length_toList]; exact m5, by rw [Array.length_toList]; exact m4⟩
end Go.Proofs.Ytnckfgihbimacaa.LM
