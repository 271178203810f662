/- What the document's Upper of layer 21 returns. Conditions: the text's length. -/
/- What the document's Digits of layer 21 returns. Conditions: the number's size. -/
/- What the document's Quote of layer 21 returns. Conditions: the text's length. -/
/- Plain definitions: the tokens of a text (layer 21; no program). No conditions but those stated. -/
/- What (*scanner).add of layer 21 does to a scanner that the call has made. Conditions: as stated. -/
import Derived.Test.YtomnljigoljldaaGreatDoorVerbPlain
import Derived.Test.YtomnljigoljldaaGreatDoorVerbUpper
import Derived.Test.YtomnljigoljldaaGreatDoorBuilderS
import Derived.Deep.AppendLies
import Derived.Test.YtomnljigoljldaaGreatDoorVerbQuote

namespace Go.Proofs.YtomnljigoljldaaGreatDoor.VB
open Go.RowKit Mailsack MM BU

theorem conv_one (W : World) (c : UInt8) : (convert 88 9 (.slice (some ⟨W.heap.size, 0, none⟩) 1 1)).run Tryz.prog (W.alloc (.cells #[.int .u8 c.toNat] 5)) = .ok (strV [c]) (W.alloc (.cells #[.int .u8 c.toNat] 5)) := by
  refine run_convert_bytes_back (P := Tryz.prog) (W.alloc (.cells #[.int .u8 c.toNat] 5)) _ _ 5 ⟨W.heap.size, 0, none⟩ 1 [c] Tryz.underlying88 Tryz.underlying5 Tryz.underlying9 (fun j hj => ?_)
  have hj0 : j = 0 := by simpa using hj
  subst hj0
  exact cell_one_new _ _ _ 0 _ rfl
/-- a row of bytes that the call owns -/
def OwnB (w : World) (base : Nat) (v : Value) (l : Bs) : Prop := w.ownsRow base 5 1 v l.length (l.map fun c => Value.int .u8 c.toNat)
theorem OwnB.nil (w : World) (base : Nat) : OwnB w base (.slice none 0 0) [] := World.ownsRow_nil w base _ _
theorem OwnB.of {w : World} {base : Nat} {v : Value} {l : Bs} {c : UInt8} (h : w.ownsRow base 5 1 v (l.length + 1) (l.map (fun c => Value.int .u8 c.toNat) ++ [.int .u8 c.toNat])) : OwnB w base v (l ++ [c]) := by
  unfold OwnB; rw [List.length_append, List.map_append]; exact h
theorem OwnB.alloc {w : World} {base : Nat} {v : Value} {l : Bs} (h : OwnB w base v l) (o : Obj) : (w.alloc o).ownsRow base 5 1 v l.length (l.map fun c => Value.int .u8 c.toNat) := World.ownsRow.alloc h o
theorem OwnB.form {w : World} {base : Nat} {v : Value} {l : Bs} (h : OwnB w base v l) : ∃ A c, v = .slice A l.length c ∧ l.length ≤ c := by
  rcases h.2 with ⟨h1, h2⟩ | ⟨g, cap, cur, h1, _, _, h2, _⟩
  · exact ⟨none, 0, by rw [h1, h2], by omega⟩
  · exact ⟨_, _, h1, h2⟩
theorem up_cap {c : UInt8} (h1 : 97 ≤ c.toNat) (h2 : c.toNat ≤ 122) : ((up c).toNat : Int) = (c.toNat : Int) - 32 := by
  rw [up_small h1 h2]; omega
theorem upTo_snoc {s : ByteArray} {k : Nat} (h : k < s.size) : upP (s.data.toList.take (k + 1)) = upP (s.data.toList.take k) ++ [up (s.data.toList.getD k 0)] := by
  have h' : k < s.data.toList.length := by rw [size_list]; exact h
  unfold upP
  rw [List.take_succ_eq_append_getElem h', List.map_append, List.getD_eq_getElem?_getD, List.getElem?_eq_getElem h']
  rfl
theorem push_row {E : TypeId} {size : Nat} {w w2 w1 : World} {B n : Nat} {tv : Value} {xs : List Value} {o : Obj} (hT : w2.ownsRow B E size tv n xs) (hg : (w2.alloc o).grownBy w1 tv.ownBlock) (hb : Below B w w2) (hB : B ≤ w2.heap.size) : Below B w w1 :=
  (hb.alloc hB o).grown hg (by simp; omega) (fun k hk => (World.ownsRow.lt hT k hk).1)
theorem conv_back {w : World} {base : Nat} {v : Value} {l : Bs} (h : OwnB w base v l) : (convert 88 9 v).run Tryz.prog w = .ok (strV l) w := by
  rcases h.2 with ⟨h1, h2⟩ | ⟨g, cap, cur, h1, _, _, h2, _⟩
  · have : l = [] := List.eq_nil_of_length_eq_zero h2
    subst this
    have h0 : ∀ W : World, (convert 88 9 (.slice none 0 0)).run Tryz.prog W = .ok (.string ⟨#[]⟩) W := fun _ => by kernel_rfl
    rw [h1]
    exact h0 w
  · rw [h1]
    refine run_convert_bytes_back w _ _ 5 ⟨g, 0, none⟩ cap l Tryz.underlying88 Tryz.underlying5 Tryz.underlying9 (fun j hj => ?_)
    exact World.ownsRow.cells h (g := g) (by rw [h1]; rfl) j _ (by simp [hj])

end Go.Proofs.YtomnljigoljldaaGreatDoor.VB


namespace Go.Proofs.YtomnljigoljldaaGreatDoor.VB
open Go.RowKit Mailsack MM BU

def digB (m : Nat) : UInt8 := UInt8.ofNat (48 + m % 10)
theorem digB_nat (m : Nat) : ((digB m).toNat : Int) = 48 + (m : Int) % 10 := by
  unfold digB
  have h : 48 + m % 10 < 256 := by omega
  rw [UInt8.toNat_ofNat', Nat.mod_eq_of_lt h]
  omega
theorem conv_dig (W : World) (m : Nat) : (convert 88 9 (.slice (some ⟨W.heap.size, 0, none⟩) 1 1)).run Tryz.prog (W.alloc (.cells #[.int .u8 (48 + (m : Int) % 10)] 5)) = .ok (.string ⟨#[digB m]⟩) (W.alloc (.cells #[.int .u8 (48 + (m : Int) % 10)] 5)) := by
  have := conv_one W (digB m)
  rw [digB_nat] at this
  exact this
/-- the digits that are still to be set ahead -/
def moreD (m : Nat) : Bs := if m < 10 then [] else Lib.decDigits (m / 10)
theorem dec_more (m : Nat) : Lib.decDigits m = moreD m ++ [digB m] := by
  unfold moreD digB
  rw [Lib.decDigits]
  by_cases h : m < 10
  · rw [dif_pos h, if_pos h, Nat.mod_eq_of_lt h]; rfl
  · rw [dif_neg h, if_neg h]

end Go.Proofs.YtomnljigoljldaaGreatDoor.VB


namespace Go.Proofs.YtomnljigoljldaaGreatDoor.VB
open Go.RowKit Mailsack MM BU

theorem ext_one (s : ByteArray) (k : Nat) (h : k < s.size) : s.extract k (k + 1) = ⟨([s[k]] : Bs).toArray⟩ := by
  have h' : k < s.data.size := h
  have : (s.extract k (k + 1)).data = #[s[k]] := by
    rw [ByteArray.data_extract]
    apply Array.ext
    · simp; omega
    · intro i h1 h2
      have : i = 0 := by simp at h2; omega
      subst this
      simp
      rfl
  generalize s.extract k (k + 1) = c at this
  cases c
  simp only at this
  rw [this]
def wordTo (s : ByteArray) (k : Nat) : Bool := decide (0 < s.size) && (s.data.toList.take k).all (fun c => !specialB c)
theorem wordTo_step (s : ByteArray) (k : Nat) (h : k < s.size) : wordTo s (k + 1) = (wordTo s k && !specialB s[k]) := by
  unfold wordTo
  rw [take_snoc s k h, List.all_append]
  simp [Bool.and_assoc]
theorem wordTo_end (s : ByteArray) : wordTo s s.size = isWord s.data.toList := by
  unfold wordTo isWord; rw [take_all, size_list]
theorem conv_92 (W : World) : (convert 88 9 (.slice (some ⟨W.heap.size, 0, none⟩) 1 1)).run Tryz.prog (W.alloc (.cells #[.int .u8 92] 5)) = .ok (.string ⟨#[92]⟩) (W.alloc (.cells #[.int .u8 92] 5)) := conv_one W 92

end Go.Proofs.YtomnljigoljldaaGreatDoor.VB


namespace Mailsack
abbrev Tok := Nat × Bs
/-- a token more, unless there are too many already -/
def addP (T : List Tok) (t : Tok) : List Tok := if T.length ≤ 40 then T ++ [t] else T
theorem addP_len {T : List Tok} {t : Tok} (h : T.length ≤ 41) : (addP T t).length ≤ 41 := by
  unfold addP; split
  · simp; omega
  · exact h
/-- a quoted text behind its first quote: what it says, and how many bytes stand behind it -/
def unqA : Bs → Bs → Option (Bs × Nat)
  | _, [] => none
  | acc, c :: r => if c = 34 then some (acc, r.length) else if c = 92 then
      match r with
      | [] => none
      | d :: r' => if d = 92 ∨ d = 34 then unqA (acc ++ [d]) r' else none
    else unqA (acc ++ [c]) r
def scanF : Nat → Bs → List Tok → Nat → Option (List Tok × Nat)
  | _, [], T, d => some (T, d)
  | 0, _ :: _, _, _ => none
  | f + 1, c :: r, T, d =>
    if c = 32 then scanF f r T d
    else if c = 40 then scanF f r (addP T (2, [])) (d + 1)
    else if c = 41 then (if d = 0 then none else scanF f r (addP T (3, [])) (d - 1))
    else if c = 34 then (match unqA [] r with
      | none => none
      | some (q, n) => scanF f (r.drop (r.length - n)) (addP T (1, q)) d)
    else scanF f ((c :: r).drop (wordLen (c :: r))) (addP T (0, (c :: r).take (wordLen (c :: r)))) d
def tokRun (lits : List Bs) : Nat → List Bs → List Tok → Nat → Option (List Tok × Nat)
  | _, [], T, d => some (T, d)
  | i, t :: ts, T, d =>
    if plainP t = true then
      match scanF t.length t (if 0 < i then addP T (1, lits.getD (i - 1) []) else T) d with
      | none => none
      | some (T2, d2) => tokRun lits (i + 1) ts T2 d2
    else none
def tokensP (texts lits : List Bs) : Option (List Tok) :=
  if texts.length = lits.length + 1 then
    match tokRun lits 0 texts [] 0 with
    | none => none
    | some (T, d) => if d = 0 ∧ T.length ≤ 40 then some T else none
  else none
theorem unqA_le : ∀ (l acc q : Bs) (n : Nat), unqA acc l = some (q, n) → n < l.length := by
  intro l
  induction hl : l.length using Nat.strongRecOn generalizing l with
  | ind m ih =>
    intro acc q n h
    cases l with
    | nil => simp [unqA] at h
    | cons c r =>
      unfold unqA at h
      simp only [List.length_cons] at hl
      split at h
      · simp at h; omega
      · split at h
        · cases r with
          | nil => simp at h
          | cons d r' =>
            simp only at h
            split at h
            · simp only [List.length_cons] at hl
              have := ih r'.length (by omega) r' rfl _ _ _ h
              omega
            · cases h
        · have := ih r.length (by omega) r rfl _ _ _ h
          omega
theorem wordLen_pos {c : UInt8} {r : Bs} (h : specialB c = false) : 0 < wordLen (c :: r) := by
  unfold wordLen
  rw [List.takeWhile_cons, if_pos (by rw [h]; rfl)]
  simp
end Mailsack


namespace Go.Proofs.YtomnljigoljldaaGreatDoor.VB
open Go.RowKit Mailsack MM BU

def tokCells (T : List Tok) : List Value := T.flatMap fun t => [.int .i64 t.1, strV t.2]
theorem tokCells_snoc (T : List Tok) (t : Tok) : tokCells (T ++ [t]) = tokCells T ++ [.int .i64 t.1, strV t.2] := by simp [tokCells]
abbrev OwnT (w : World) (B : Nat) (v : Value) (T : List Tok) : Prop := w.ownsRow B 154 2 v T.length (tokCells T)
/-- a scanner, at the block b, with these tokens and that depth -/
def Scn (B b : Nat) (T : List Tok) (d : Nat) (w : World) : Prop :=
  B ≤ b ∧ T.length ≤ 41 ∧ ∃ v, w.heap[b]? = some (.cells #[v, .int .i64 d] 226 (0, 0)) ∧ OwnT w B v T ∧ v.ownBlock ≠ some b
theorem infoTok : (Tryz.prog.info? 154).map (fun i => (i.zero.map (·.cells.size), i.size, i.bytes)) = some (some 2, 2, 24) := by kernel_rfl
theorem own_ne {w : World} {B b : Nat} {v : Value} {T : List Tok} {cs : Array Value} (h : OwnT w B v T) (hb : w.heap[b]? = some (.cells cs 226 (0, 0))) : v.ownBlock ≠ some b := by
  rcases h.2 with ⟨h1, _⟩ | ⟨g, cap, cur, h1, _, h3, _⟩
  · rw [h1]; simp [Value.ownBlock]
  · rw [h1]
    intro e
    have e : g = b := by simpa [Value.ownBlock] using e
    rw [e, hb] at h3
    injection h3 with h3
    injection h3 with _ h3
    exact absurd h3 (by decide)
theorem Scn.keep {B b : Nat} {T : List Tok} {d : Nat} {w w' : World} (h : Scn B b T d w) (hb : Below w.heap.size w w') : Scn B b T d w' := by
  obtain ⟨h1, h2, v, h3, h4, h5⟩ := h
  exact ⟨h1, h2, v, blk_below h3 hb (blk_lt h3), h4.kept (grown_of_below hb none) (by cases v.ownBlock <;> simp), h5⟩
theorem Scn.deep {B b : Nat} {T : List Tok} {d : Nat} {w : World} (h : Scn B b T d w) (d' : Nat) : Scn B b T d' (w.setCell ⟨b, 1, none⟩ (.int .i64 d')) := by
  obtain ⟨h1, h2, v, h3, h4, h5⟩ := h
  refine ⟨h1, h2, v, blk_set h3 1 _, ?_, h5⟩
  exact h4.kept (row := some b) ⟨rfl, rfl, rfl, by simp [World.setCell], fun k _ hk => Below.heap_setCell _ _ _ _ (fun e => hk (by simp [e]))⟩ (Or.inr h5)

set_option maxHeartbeats 1000000 in
set_option maxRecDepth 100000 in
theorem add_any (B b : Nat) (T : List Tok) (d : Nat) (k : Nat) (s : ByteArray) (w : World) (h : Scn B b T d w) (hB : B ≤ w.heap.size) :
    Calls Tryz.prog 129 #[.pointer (some ⟨b, 0, none⟩), .int .i64 k, .string s] w fun e w' => e = .returned (.tuple #[]) ∧ Scn B b (addP T (k, s.data.toList)) d w' ∧ Below B w w' := by
  have Hh := Lib.hid h
  obtain ⟨hBb, hT, v, hbk, hown, hne⟩ := h
  obtain ⟨i0, hi, hi'⟩ := Option.map_eq_some_iff.1 infoTok
  injection hi' with hz0 hi'
  injection hi' with hz1 hz2
  obtain ⟨z, hz0, hzs⟩ := Option.map_eq_some_iff.1 hz0
  obtain ⟨A, cp, e9⟩ : ∃ A cp, v = .slice A T.length cp := by
    rcases hown.2 with ⟨h1, h2⟩ | ⟨g, cap, cur, h1, _⟩
    · exact ⟨none, 0, by rw [h1, h2]⟩
    · exact ⟨_, _, h1⟩
  subst e9
  have hown' := Lib.hid hown
  have Hne := Lib.hid hne
  have Hbk := Lib.hid hbk
  have k1 : w.cell? ⟨b, 0, none⟩ = some (.slice A T.length cp) := cell_blk hbk 0
  have hlt := blk_lt hbk
  clear hown hne hbk
  by_cases h40 : T.length ≤ 40
  · have hadd : addP T (k, s.data.toList) = T ++ [(k, s.data.toList)] := by unfold addP; rw [if_pos h40]
    rw [hadd]
    clear hadd
    go_enter Tryz.func129, Tryz.ntmps129
    go_wp2_with (at_builtin; refine wpList_append_lies _ rfl _ _ 150 rfl B 154 i0 z 2 24 Tryz.underlying150 hi hz0 hz1 hz2 hzs (by decide) _ _ _ rfl (World.ownsRow.alloc hown'.out _) ⟨w.heap.size, 0, none⟩ 1 1 [.int .i64 k, .string s] rfl rfl (World.news_of_block (blk_new _ _)) (by intro u hu; simp at hu; rcases hu with rfl | rfl <;> rfl) (by decide) (by unfold maxLen; omega) (by omega) (by simp; omega) (w.heap.size + 1) (by simp) ?_; intro g cap w2 hown2 hgrow hat hlt2; have pk := Lib.hid (blk_grown (blk_alloc Hbk.out _) hgrow (fun e => Hne.out e.symm)); have k2 : w2.cell? ⟨b, 0, none⟩ = some (.slice A T.length cp) := cell_blk pk.out 0; have y2 : w2.frozen? ⟨b, 0, none⟩ = false := free_blk pk.out 0; have Hown2 := Lib.hid hown2; have Hgrow := Lib.hid hgrow; clear hown2 hgrow)
    go_end0
    have hown3 : OwnT w2 B (.slice (some ⟨g, 0, none⟩) (T.length + 1) cap) (T ++ [(k, s.data.toList)]) := by
      unfold OwnT; rw [tokCells_snoc, List.length_append]; exact Hown2.out
    have hne3 := own_ne hown3 pk.out
    refine ⟨rfl, ⟨hBb, by simp; omega, _, blk_set pk.out 0 _, ?_, hne3⟩, ?_⟩
    · exact hown3.kept (row := some b) ⟨rfl, rfl, rfl, by simp [World.setCell], fun k _ hk => Below.heap_setCell _ _ _ _ (fun e => hk (by simp [e]))⟩ (Or.inr hne3)
    · refine Below.setCell ?_ (p := ⟨b, 0, none⟩) hBb _
      exact ((Below.refl B w).alloc hB _).grown Hgrow.out (by simp; omega) (fun k hk => (World.ownsRow.lt hown'.out k hk).1)
  · have hadd : addP T (k, s.data.toList) = T := by unfold addP; rw [if_neg h40]
    rw [hadd]
    clear hadd
    go_enter Tryz.func129, Tryz.ntmps129
    go_wp2
    go_end0
    exact ⟨rfl, Hh.out, Below.refl B w⟩
end Go.Proofs.YtomnljigoljldaaGreatDoor.VB
