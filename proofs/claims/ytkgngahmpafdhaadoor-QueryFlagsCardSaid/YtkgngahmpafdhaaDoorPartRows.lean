/- What the document's Rows of layer 19 returns: as many rows as there are ends of lines, and one. Conditions: lengths. -/
import Derived.Test.YtkgngahmpafdhaaDoorPartRef2
namespace Go.Proofs.YtkgngahmpafdhaaDoor.PT
open Go.RowKit Mailsack MM

theorem infoStr : (Tryd.prog.info? 9).map (fun i => (i.zero, i.size, i.bytes)) = some (some (.string ⟨#[]⟩), 1, 16) := by kernel_rfl

/-- a slice of so many texts -/
def SomeRows (n : Nat) (w : World) (e : Ending) (w' : World) : Prop := ∃ A c, e = .returned (.slice A n c) ∧ Below w.heap.size w w'

structure RwI (s : ByteArray) (w : World) (fr k : Nat) (lv : Value) (L : List Bs) (wr : World) : Prop where
  own : OwnS wr w.heap.size lv L
  bel : Below w.heap.size w wr
  num : L.length + cc (s.data.toList.drop k) = cc s.data.toList
  len : L.length ≤ k
  not : k < fr → crlf s.data.toList k = false
  one : fr ≤ k + 1

theorem push_str {w w2 w1 : World} {tv v' : Value} {T : List Bs} {x : Bs} {o : Obj} (hT : OwnS w2 w.heap.size tv T) (hown : w1.ownsRow w.heap.size 9 1 v' (T.length + 1) (T.map strV ++ [strV x])) (hg : (w2.alloc o).grownBy w1 tv.ownBlock) (hb : Below w.heap.size w w2) :
    OwnS w1 w.heap.size v' (T ++ [x]) ∧ Below w.heap.size w w1 := ⟨OwnS.of hown, push_row hT hg hb hb.size⟩

end Go.Proofs.YtkgngahmpafdhaaDoor.PT
