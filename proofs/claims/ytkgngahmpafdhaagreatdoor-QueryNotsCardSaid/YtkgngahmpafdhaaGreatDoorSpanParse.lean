/- What span.Parse returns, for any text. Conditions: the text's length, and that the cell of the library's MaxLen holds some int. -/
import Derived.Test.YtkgngahmpafdhaaGreatDoorSplitSeq
import Derived.Test.YtkgngahmpafdhaaGreatDoorSpanNumber
import Derived.Test.YtkgngahmpafdhaaGreatDoorMem
import Derived.Maps.AppendAt
namespace Go.Proofs.YtkgngahmpafdhaaGreatDoor.SP
open Go.RowKit Go.Shelf Mailsack MM RB
attribute [local go_sem] Oper.semAt_some

/-- ranges as cells -/
def rngCells (L : List (Int × Int)) : List Value := L.flatMap fun r => [.int .i64 r.1, .int .i64 r.2]
theorem rngCells_snoc (L : List (Int × Int)) (r : Int × Int) : rngCells (L ++ [r]) = rngCells L ++ [.int .i64 r.1, .int .i64 r.2] := by simp [rngCells]
theorem rngCells_len (L : List (Int × Int)) : (rngCells L).length = 2 * L.length := by
  induction L with
  | nil => rfl
  | cons r L ih => rw [show rngCells (r :: L) = [.int .i64 r.1, .int .i64 r.2] ++ rngCells L by simp [rngCells], List.length_append, ih]; simp; omega
/-- the slice value v owns a row of just these ranges -/
def OwnR (w : World) (B : Nat) (v : Value) (L : List (Int × Int)) : Prop := w.ownsRow B 95 2 v L.length (rngCells L)
theorem OwnR.nil (w : World) (B : Nat) : OwnR w B (.slice none 0 0) [] := World.ownsRow_nil w B _ _
theorem row_less {w : World} {base base' : Nat} {E : TypeId} {size n : Nat} {v : Value} {xs : List Value} (h : w.ownsRow base E size v n xs) (hb : base' ≤ base) : w.ownsRow base' E size v n xs := by
  refine ⟨h.1, ?_⟩
  rcases h.2 with hn | ⟨g, cap, cur, h1, h2, h3⟩
  · exact .inl hn
  · exact .inr ⟨g, cap, cur, h1, by omega, h3⟩
theorem infoR : (Tryz.prog.info? 95).map (fun i => (i.zero.map (·.cells.size), i.size, i.bytes)) = some (some 2, 2, 16) := by kernel_rfl

def ParsePost (w : World) (R : Option (List (Int × Int))) (e : Ending) (w' : World) : Prop := match R with
  | none => e = .returned (.tuple #[.slice none 0 0, .int .i64 3]) ∧ Below w.heap.size w w'
  | some L => ∃ v, e = .returned (.tuple #[v, .int .i64 0]) ∧ OwnR w' w.heap.size v L ∧ Below w.heap.size w w'

/-- between two rounds -/
structure PAt (w : World) (pre : List Sm) (W : World) : Prop where
  box : ∃ v, Boxed W (w.heap.size + 1 + 1) 82 v ∧ OwnR W (w.heap.size + 6) v ((parts pre).map partV)
  ok : ∀ p ∈ parts pre, partOK p = true
  r0 : Boxed W w.heap.size 82 (.slice none 0 0)
  r1 : Boxed W (w.heap.size + 1) 30 (.int .i64 0)
  bel : Below w.heap.size w W
  big : w.heap.size + 6 ≤ W.heap.size
/-- a part was none -/
structure PX (w : World) (pre : List Sm) (W : World) : Prop where
  bad : ∃ p ∈ parts pre, partOK p = false
  r0 : Boxed W w.heap.size 82 (.slice none 0 0)
  r1 : Boxed W (w.heap.size + 1) 30 (.int .i64 3)
  bel : Below w.heap.size w W

theorem num_at {a : Bs} {na : Int} {oa : Bool} (h : numS a = (na, oa)) (hl : a.length ≤ 1000000) (W : World) :
    Calls Tryz.prog 65 #[.string ⟨a.toArray⟩] W fun e w' => e = .returned (.tuple #[.int .i64 na, .bool oa]) ∧ W = w' := by
  have := number_any ⟨a.toArray⟩ W (by show a.length ≤ _; omega)
  rw [show (⟨a.toArray⟩ : ByteArray).data.toList = a from rfl, h] at this
  exact this
theorem PAt.own (w : World) (B : Nat) (hB : w.heap.size ≤ B) : OwnFrom B (PAt w) := fun s W W' row hs hg hr => by
  obtain ⟨v, h1, h2⟩ := hs.box
  obtain ⟨v', h1', h2', _⟩ := ((holdsRow_own (w.heap.size + 6) (w.heap.size + 1 + 1) 82 95 2 (fun s : List Sm => ((parts s).map partV).length) (fun s => rngCells ((parts s).map partV)) (fun _ _ => True)).from B) s W W' row ⟨v, h1, h2, trivial⟩ hg hr
  exact ⟨⟨v', h1', h2'⟩, hs.ok, ((boxed_own (β := List Sm) _ _ (fun _ => _)).from B) s W W' row hs.r0 hg hr, ((boxed_own (β := List Sm) _ _ (fun _ => _)).from B) s W W' row hs.r1 hg hr,
    (ownFrom_below (β := List Sm) (Nat.le_refl _) hB) s W W' row hs.bel hg hr, Nat.le_trans hs.big hg.size⟩
theorem PX.own (w : World) (B : Nat) (hB : w.heap.size ≤ B) : OwnFrom B (PX w) := fun s W W' row hs hg hr =>
  ⟨hs.bad, ((boxed_own (β := List Sm) _ _ (fun _ => _)).from B) s W W' row hs.r0 hg hr, ((boxed_own (β := List Sm) _ _ (fun _ => _)).from B) s W W' row hs.r1 hg hr,
    (ownFrom_below (β := List Sm) (Nat.le_refl _) hB) s W W' row hs.bel hg hr⟩
theorem PAt.set {w : World} {pre : List Sm} {W : World} (h : PAt w pre W) (v : Value) : PAt w pre (W.setCell ⟨w.heap.size + 1 + 1 + 1, 0, none⟩ v) := by
  obtain ⟨u, h1, h2⟩ := h.box
  exact ⟨⟨u, h1.other (by omega) _, ownsRow_setCell_below h2 (by show w.heap.size + 1 + 1 + 1 < _; omega) _⟩, h.ok, h.r0.other (by omega) _, h.r1.other (by omega) _, h.bel.setCell (p := ⟨w.heap.size + 1 + 1 + 1, 0, none⟩) (by show w.heap.size ≤ w.heap.size + 1 + 1 + 1; omega) _, by rw [size_set]; exact h.big⟩

theorem cut_len {l sep a b : Bs} {two : Bool} (h : Lib.cut l sep = (a, b, two)) : a.length ≤ l.length ∧ b.length ≤ l.length := by
  rcases index_cases l sep with hi | ⟨i, hi⟩
  · rw [cut_miss hi] at h; injection h with h1 h2; injection h2 with h2 _; subst h1 h2; simp
  · rw [cut_hit hi] at h; injection h with h1 h2; injection h2 with h2 _; subst h1 h2; simp; omega
theorem parts_snoc (pre : List Sm) (x : Sm) : parts (pre ++ [x]) = parts pre ++ [x.1.data.toList] := by simp [parts]
theorem fail_out {w : World} {pre : List Sm} {W : World} {x : ByteArray} {hx : x.size ≤ 1000000} (h : PAt w pre W) (n : Nat) (hbad : partOK x.data.toList = false) :
    PX w (pre ++ [⟨x, hx⟩]) (((W.drewN n).setCell ⟨w.heap.size, 0, none⟩ (.slice none 0 0)).setCell ⟨w.heap.size + 1, 0, none⟩ (.int .i64 3)) := by
  refine ⟨⟨_, by rw [parts_snoc]; exact List.mem_append_right _ (List.mem_singleton.2 rfl), hbad⟩, ?_, ?_, ?_⟩
  · exact (Boxed.set (W := W.drewN n) _ (show Boxed (W.drewN n) _ _ _ from h.r0)).other (by omega) _
  · exact (Boxed.other (W := W.drewN n) (show Boxed (W.drewN n) _ _ _ from h.r1) (by omega) _).set _
  · exact ((below_drewN h.bel n).setCell (p := ⟨w.heap.size, 0, none⟩) (Nat.le_refl _) _).setCell (p := ⟨w.heap.size + 1, 0, none⟩) (by show w.heap.size ≤ w.heap.size + 1; omega) _

theorem good_out {w : World} {pre : List Sm} {W w1 : World} {x : ByteArray} {hx : x.size ≤ 1000000} {L : List (Int × Int)} {v v' : Value} {tmp : Obj} {na nb : Int} (h : PAt w pre W) (hL : (parts pre).map partV = L) (n : Nat)
    (hv1 : Boxed w1 (w.heap.size + 1 + 1) 82 v) (hrow : W.ownsRow (w.heap.size + 6) 95 2 v L.length (rngCells L))
    (hown : w1.ownsRow (w.heap.size + 6) 95 2 v' (L.length + 1) (rngCells L ++ [.int .i64 na, .int .i64 nb])) (hgrow : ((W.drewN n).alloc tmp).grownBy w1 v.ownBlock)
    (hval : partV x.data.toList = (na, nb)) (hok : partOK x.data.toList = true) :
    KpI (w.heap.size + 1 + 1 + 1) W (w1.setCell ⟨w.heap.size + 1 + 1, 0, none⟩ v') ∧ PAt w (pre ++ [⟨x, hx⟩]) (w1.setCell ⟨w.heap.size + 1 + 1, 0, none⟩ v') := by
  have hbig := h.big
  have hk : ∀ k, k < w.heap.size + 6 → w1.heap[k]? = W.heap[k]? := fun k hk =>
    (hgrow.block k (by rw [World.size_alloc]; show k < W.heap.size + 1; omega) (fun e => by have := (World.ownsRow.lt hrow k e.symm).1; omega)).trans (Below.heap_alloc (W.drewN n) tmp k (show k < W.heap.size by omega))
  have hsz : W.heap.size + 1 ≤ w1.heap.size := by have := hgrow.size; rw [World.size_alloc] at this; exact this
  refine ⟨fun k h1 h2 => (Below.heap_setCell w1 ⟨w.heap.size + 1 + 1, 0, none⟩ v' k (by show k ≠ w.heap.size + 1 + 1; omega)).trans (hk k (by omega)), ⟨v', hv1.set v', ?_⟩, ?_, ?_, ?_, ?_, ?_⟩
  · unfold OwnR
    rw [parts_snoc, List.map_append, hL, List.map_cons, List.map_nil, hval, rngCells_snoc, List.length_append]
    exact ownsRow_setCell_below hown (a := ⟨w.heap.size + 1 + 1, 0, none⟩) (by show w.heap.size + 1 + 1 < w.heap.size + 6; omega) v'
  · intro p hp
    rw [parts_snoc] at hp
    rcases List.mem_append.1 hp with hp | hp
    · exact h.ok p hp
    · rw [List.mem_singleton.1 hp]; exact hok
  · exact Boxed.other (show Boxed w1 _ _ _ from (hk _ (by omega)).trans h.r0) (by omega) _
  · exact Boxed.other (show Boxed w1 _ _ _ from (hk _ (by omega)).trans h.r1) (by omega) _
  · refine Below.setCell ?_ (p := ⟨w.heap.size + 1 + 1, 0, none⟩) (by show w.heap.size ≤ w.heap.size + 1 + 1; omega) v'
    exact ((below_drewN h.bel n).alloc (show w.heap.size ≤ W.heap.size by omega) tmp).grown hgrow (by rw [World.size_alloc]; show w.heap.size ≤ W.heap.size + 1; omega) (fun k e => by have := (World.ownsRow.lt hrow k e).1; omega)
  · rw [size_set]; omega

set_option maxHeartbeats 2000000 in
set_option maxRecDepth 100000 in
theorem parse_any (s : ByteArray) (m : Int) (w : World) (hs : s.size ≤ 1000000) (hm : w.cell? ⟨0, 0, none⟩ = some (.int .i64 m)) :
    Calls Tryz.prog 52 #[.string s] w (ParsePost w (parseS s.data.toList)) := by
  have hw0 : 0 < w.heap.size := World.block_lt_of_cell? w _ hm
  have Hm := Lib.hid hm
  clear hm
  obtain ⟨i0, hi, hi'⟩ := Option.map_eq_some_iff.1 infoR
  injection hi' with hz0 hi'
  injection hi' with hz1 hz2
  obtain ⟨z, hz0, hzs⟩ := Option.map_eq_some_iff.1 hz0
  refine (callsIn_wide (n := 3)).1 ?_
  refine callsIn_of_wp_marks Tryz.func52 rfl trivial ?_ rfl
  simp only [Tryz.ntmps52, List.size_toArray, List.length_cons, List.length_nil, Nat.reduceAdd, Nat.reduceSub, Array.replicate_succ, Array.replicate_zero, List.push_toArray, List.append_toArray, List.nil_append, List.cons_append]
  gi_wp2_with (refine ⟨trivial, ?_⟩; gi_at_call 63; refine (callsIn_wide.2 (SplitSeq_any s _)).mono ?_; rintro e w' ⟨rfl, rfl⟩)
  have hit := boxW_at s (((w.alloc (Obj.cells #[Value.slice none 0 0] 82)).alloc (Obj.cells #[Value.int IntKind.i64 0] 30)).alloc (Obj.cells #[Value.slice none 0 0] 82))
  rw [World.size_alloc, World.size_alloc, World.size_alloc] at hit
  have hsz : (boxW s (((w.alloc (Obj.cells #[Value.slice none 0 0] 82)).alloc (Obj.cells #[Value.int IntKind.i64 0] 30)).alloc (Obj.cells #[Value.slice none 0 0] 82))).heap.size = w.heap.size + 6 := by rw [boxW_size]; simp
  have hbe : Below w.heap.size w (boxW s (((w.alloc (Obj.cells #[Value.slice none 0 0] 82)).alloc (Obj.cells #[Value.int IntKind.i64 0] 30)).alloc (Obj.cells #[Value.slice none 0 0] 82))) :=
    boxW_below ((((Below.refl _ w).alloc (Nat.le_refl _) _).alloc (by simp) _).alloc (by simp; omega) _) (by simp; omega) s
  have b0 : Boxed (boxW s (((w.alloc (Obj.cells #[Value.slice none 0 0] 82)).alloc (Obj.cells #[Value.int IntKind.i64 0] 30)).alloc (Obj.cells #[Value.slice none 0 0] 82))) w.heap.size 82 (.slice none 0 0) :=
    (((((Boxed.new w _ _).alloc _).alloc _).alloc _).alloc _).alloc _
  have b1 : Boxed (boxW s (((w.alloc (Obj.cells #[Value.slice none 0 0] 82)).alloc (Obj.cells #[Value.int IntKind.i64 0] 30)).alloc (Obj.cells #[Value.slice none 0 0] 82))) (w.heap.size + 1) 30 (.int .i64 0) := by
    have := ((((Boxed.new (w.alloc (Obj.cells #[Value.slice none 0 0] 82)) 30 (.int .i64 0)).alloc (Obj.cells #[Value.slice none 0 0] 82)).alloc (.cells #[.string s] 9)).alloc (.cells #[.string ⟨#[44]⟩] 9)).alloc (.cells #[.int .i64 0] 3)
    rwa [World.size_alloc] at this
  have b2 : Boxed (boxW s (((w.alloc (Obj.cells #[Value.slice none 0 0] 82)).alloc (Obj.cells #[Value.int IntKind.i64 0] 30)).alloc (Obj.cells #[Value.slice none 0 0] 82))) (w.heap.size + 1 + 1) 82 (.slice none 0 0) := by
    have := (((Boxed.new ((w.alloc (Obj.cells #[Value.slice none 0 0] 82)).alloc (Obj.cells #[Value.int IntKind.i64 0] 30)) 82 (.slice none 0 0)).alloc (.cells #[.string s] 9)).alloc (.cells #[.string ⟨#[44]⟩] 9)).alloc (.cells #[.int .i64 0] 3)
    rwa [World.size_alloc, World.size_alloc] at this
  generalize (boxW s (((w.alloc (Obj.cells #[Value.slice none 0 0] 82)).alloc (Obj.cells #[Value.int IntKind.i64 0] 30)).alloc (Obj.cells #[Value.slice none 0 0] 82))) = w6 at hit hsz hbe b0 b1 b2 ⊢
  refine wpIn_rangeB (b := w.heap.size + 1 + 1 + 1) rfl (by omega) rfl trivial (enters_of Tryz.func79 (by kernel_rfl) rfl) (split_stops 2 (by omega) _ s hs _ hit) (by omega)
    (fun h k i h1 h2 => (k i h1 h2).trans (h i h1 h2)) (fun W l o' hl k h1 h2 => World.putObj_heap_other (by omega)) (fun _ => rfl)
    (PAt w) (fun c pre W => c = .ret ∧ PX w pre W) (PAt.own w _ (by omega)) (fun c => OwnFrom.and (ownFrom_pure _ _) (PX.own w _ (by omega))) (fun s A v h => h.set v)
    ⟨⟨_, b2, OwnR.nil _ _⟩, by simp [parts], b0, b1, hbe, by omega⟩
    (fun x => { tmps := #[Value.string s, undef, Value.pointer (some ⟨w.heap.size, 0, none⟩), Value.pointer (some ⟨w.heap.size + 1, 0, none⟩), Value.pointer (some ⟨w.heap.size + 1 + 1, 0, none⟩), .string x.1, undef, undef, undef, undef, undef, undef, undef, Value.string s, Value.func (Fn.func 79) #[] #[Value.pointer (some ⟨w.heap.size + 1 + 1 + 1 + 1, 0, none⟩), Value.pointer (some ⟨w.heap.size + 1 + 1 + 1, 0, none⟩), Value.pointer (some ⟨w.heap.size + 1 + 1 + 1 + 2, 0, none⟩)], .string x.1, undef, undef, undef, undef, undef, undef, undef, undef, undef, undef, undef, undef, undef, undef, undef, undef, undef, undef, undef, undef, undef, undef, undef, undef, undef, undef, undef, undef, undef, undef, undef, undef], defers := [] }) ?assign ?body ?done ?stop
  case assign =>
    intro l x W K hK
    gi_wp2
    exact hK
  case body =>
    intro l pre x W hP hlen
    have hm2 := Lib.hid ((hP.bel.cell hw0).trans Hm.out)
    obtain ⟨x, hx⟩ := x
    have HP := Lib.hid hP
    obtain ⟨v, hv, hrow⟩ := hP.box
    obtain ⟨A, c, e9⟩ : ∃ A c, v = .slice A ((parts pre).map partV).length c := by
      rcases hrow.2 with ⟨h1, h2⟩ | ⟨g, cap, cur, h1, _⟩
      · exact ⟨none, 0, by rw [h1, h2]⟩
      · exact ⟨_, _, h1⟩
    subst e9
    have hL : ((parts pre).map partV).length ≤ 1000000 := by simp [parts]; omega
    obtain ⟨L, hLL⟩ : ∃ L, (parts pre).map partV = L := ⟨_, rfl⟩
    rw [hLL] at hrow hL hv
    have HLL := Lib.hid hLL
    clear hLL
    obtain ⟨a, b, two, hcut, hends⟩ : ∃ a b two, Lib.cut x.data.toList (⟨#[58]⟩ : ByteArray).data.toList = (a, b, two) ∧ ends x.data.toList = (a, if two = true then b else a) := by
      rcases index_cases x.data.toList [58] with hi | ⟨i, hi⟩
      · exact ⟨_, _, _, cut_miss hi, by unfold ends; rw [if_neg (by omega)]; rfl⟩
      · exact ⟨_, _, _, cut_hit hi, by unfold ends; rw [if_pos (by omega), hi]; rfl⟩
    -- BODY BEGINS
    have Hcut := Lib.hid hcut
    have Hrow := Lib.hid hrow
    have c4 := hv.cell
    have f4 := hv.frozen
    have c0 := HP.out.r0.cell
    have f0 := HP.out.r0.frozen
    have c5 := HP.out.r1.cell
    have f5 := HP.out.r1.frozen
    obtain ⟨na, oa, ha⟩ : ∃ n o, numS a = (n, o) := ⟨_, _, rfl⟩
    have hla : a.length ≤ 1000000 := Nat.le_trans (cut_len hcut).1 (by rw [size_list]; exact hx)
    have hlb : b.length ≤ 1000000 := Nat.le_trans (cut_len hcut).2 (by rw [size_list]; exact hx)
    have Na := Lib.hid (num_at ha hla)
    have hbig := hP.big
    have hpre : pre.length ≤ 1000000 := by omega
    clear hP
    cases two
    · have hok : partOK x.data.toList = oa := by unfold partOK; rw [hends]; simp [ha]
      have hval : partV x.data.toList = (na, na) := by unfold partV; rw [hends]; simp [ha]
      cases oa
      · have Hbad := Lib.hid hok
        clear hcut hends hrow ha hok hval
        gi_wp2_with (first | (refine ⟨trivial, ?_⟩; gi_at_call 64; refine (CallsIn.inRound l (callsIn_wide.2 (Tryz.strings_Cut x ⟨#[58]⟩ m _ (by omega) hm2.out))).mono ?_; rintro e w' ⟨rfl, n1, rfl⟩; rw [Hcut.out]; have Hrow1 := Lib.hid (show (W.drewN n1).ownsRow _ _ _ _ _ _ from Hrow.out); have Hv1 := Lib.hid (show Boxed (W.drewN n1) _ _ _ from hv)) | (refine ⟨trivial, ?_⟩; gi_at_call 65; refine (CallsIn.inRound l (callsIn_wide.2 (Na.out _))).mono ?_; rintro e w' ⟨rfl, rfl⟩))
        refine ⟨?_, rfl, ?_⟩
        · exact (KeepsOthers.from ((show KeepsOthers W (W.drewN n1) from ⟨Nat.le_refl _, fun _ _ h _ => h⟩).trans ((KeepsOthers.setCell _ _ _).trans (KeepsOthers.setCell _ _ _))) _)
        · exact fail_out HP.out n1 (Hbad.out)
      · have Hok := Lib.hid hok
        have Hval := Lib.hid hval
        clear hcut hends hrow ha hok hval
        gi_wp2_with (first | (refine ⟨trivial, ?_⟩; gi_at_call 64; refine (CallsIn.inRound l (callsIn_wide.2 (Tryz.strings_Cut x ⟨#[58]⟩ m _ (by omega) hm2.out))).mono ?_; rintro e w' ⟨rfl, n1, rfl⟩; rw [Hcut.out]; have Hrow1 := Lib.hid (show (W.drewN n1).ownsRow _ _ _ _ _ _ from Hrow.out); have Hv1 := Lib.hid (show Boxed (W.drewN n1) _ _ _ from hv)) | (refine ⟨trivial, ?_⟩; gi_at_call 65; refine (CallsIn.inRound l (callsIn_wide.2 (Na.out _))).mono ?_; rintro e w' ⟨rfl, rfl⟩) | (gi_at_builtin; refine wpListIn_append_own _ rfl _ _ 82 rfl (w.heap.size + 6) 95 i0 z 2 16 Tryz.underlying82 hi hz0 hz1 hz2 hzs (by decide) _ _ _ rfl (World.ownsRow.alloc Hrow1.out _) ⟨W.heap.size, 0, none⟩ 1 1 [.int .i64 na, .int .i64 na] rfl rfl (World.news_of_block (blk_new _ _)) (by intro u hu; simp at hu; rcases hu with rfl | rfl <;> rfl) (by unfold maxLen; omega) (by omega) (by simp; omega) ?_; intro v' w1 hown' hgrow _; obtain ⟨g', cap', rfl⟩ := ownsRow_succ hown'; obtain ⟨hv1, hv2, hr2, hk2, hb2⟩ := Hv1.out.appended (by decide) (row_less Hrow1.out (show w.heap.size ≤ w.heap.size + 6 by omega)) (show w.heap.size ≤ W.heap.size by omega) (by omega) (row_less hown' (show w.heap.size ≤ w.heap.size + 6 by omega)) hgrow; have Hown' := Lib.hid hown'; have Hgrow := Lib.hid hgrow; have Hk2 := Lib.hid hk2; have Hb2 := Lib.hid hb2; have c1 := hv1.cell; have f1 := hv1.frozen; clear hown' hgrow hk2 hb2 hr2))
        obtain ⟨o1, o2⟩ := good_out (x := x) (hx := hx) HP.out HLL.out n1 hv1 Hrow.out Hown'.out Hgrow.out Hval.out Hok.out
        exact ⟨KeepsOthers.from (show KeepsOthers W _ from ⟨Hk2.out.size, Hk2.out.same⟩) _, o1, o2⟩
    · obtain ⟨nb, ob, hb⟩ : ∃ n o, numS b = (n, o) := ⟨_, _, rfl⟩
      have Nb := Lib.hid (num_at hb hlb)
      have hok : partOK x.data.toList = (oa && ob) := by unfold partOK; rw [hends]; simp [ha, hb]
      have hval : partV x.data.toList = (na, nb) := by unfold partV; rw [hends]; simp [ha, hb]
      cases oa
      · have Hbad := Lib.hid (show partOK x.data.toList = false from hok)
        clear hcut hends hrow ha hb hok hval
        gi_wp2_with (first | (refine ⟨trivial, ?_⟩; gi_at_call 64; refine (CallsIn.inRound l (callsIn_wide.2 (Tryz.strings_Cut x ⟨#[58]⟩ m _ (by omega) hm2.out))).mono ?_; rintro e w' ⟨rfl, n1, rfl⟩; rw [Hcut.out]; have Hrow1 := Lib.hid (show (W.drewN n1).ownsRow _ _ _ _ _ _ from Hrow.out); have Hv1 := Lib.hid (show Boxed (W.drewN n1) _ _ _ from hv)) | (refine ⟨trivial, ?_⟩; gi_at_call 65; refine (CallsIn.inRound l (callsIn_wide.2 (Na.out _))).mono ?_; clear Na; rintro e w' ⟨rfl, rfl⟩) | (refine ⟨trivial, ?_⟩; gi_at_call 65; refine (CallsIn.inRound l (callsIn_wide.2 (Nb.out _))).mono ?_; clear Nb; rintro e w' ⟨rfl, rfl⟩))
        refine ⟨?_, rfl, ?_⟩
        · exact (KeepsOthers.from ((show KeepsOthers W (W.drewN n1) from ⟨Nat.le_refl _, fun _ _ h _ => h⟩).trans ((KeepsOthers.setCell _ _ _).trans (KeepsOthers.setCell _ _ _))) _)
        · exact fail_out HP.out n1 (Hbad.out)
      · cases ob
        · have Hbad := Lib.hid (show partOK x.data.toList = false from hok)
          clear hcut hends hrow ha hb hok hval
          gi_wp2_with (first | (refine ⟨trivial, ?_⟩; gi_at_call 64; refine (CallsIn.inRound l (callsIn_wide.2 (Tryz.strings_Cut x ⟨#[58]⟩ m _ (by omega) hm2.out))).mono ?_; rintro e w' ⟨rfl, n1, rfl⟩; rw [Hcut.out]; have Hrow1 := Lib.hid (show (W.drewN n1).ownsRow _ _ _ _ _ _ from Hrow.out); have Hv1 := Lib.hid (show Boxed (W.drewN n1) _ _ _ from hv)) | (refine ⟨trivial, ?_⟩; gi_at_call 65; refine (CallsIn.inRound l (callsIn_wide.2 (Na.out _))).mono ?_; clear Na; rintro e w' ⟨rfl, rfl⟩) | (refine ⟨trivial, ?_⟩; gi_at_call 65; refine (CallsIn.inRound l (callsIn_wide.2 (Nb.out _))).mono ?_; clear Nb; rintro e w' ⟨rfl, rfl⟩))
          refine ⟨?_, rfl, ?_⟩
          · exact (KeepsOthers.from ((show KeepsOthers W (W.drewN n1) from ⟨Nat.le_refl _, fun _ _ h _ => h⟩).trans ((KeepsOthers.setCell _ _ _).trans (KeepsOthers.setCell _ _ _))) _)
          · exact fail_out HP.out n1 (Hbad.out)
        · have Hok := Lib.hid (show partOK x.data.toList = true from hok)
          have Hval := Lib.hid hval
          clear hcut hends hrow ha hb hok hval
          gi_wp2_with (first | (refine ⟨trivial, ?_⟩; gi_at_call 64; refine (CallsIn.inRound l (callsIn_wide.2 (Tryz.strings_Cut x ⟨#[58]⟩ m _ (by omega) hm2.out))).mono ?_; rintro e w' ⟨rfl, n1, rfl⟩; rw [Hcut.out]; have Hrow1 := Lib.hid (show (W.drewN n1).ownsRow _ _ _ _ _ _ from Hrow.out); have Hv1 := Lib.hid (show Boxed (W.drewN n1) _ _ _ from hv)) | (refine ⟨trivial, ?_⟩; gi_at_call 65; refine (CallsIn.inRound l (callsIn_wide.2 (Na.out _))).mono ?_; clear Na; rintro e w' ⟨rfl, rfl⟩) | (refine ⟨trivial, ?_⟩; gi_at_call 65; refine (CallsIn.inRound l (callsIn_wide.2 (Nb.out _))).mono ?_; clear Nb; rintro e w' ⟨rfl, rfl⟩) | (gi_at_builtin; refine wpListIn_append_own _ rfl _ _ 82 rfl (w.heap.size + 6) 95 i0 z 2 16 Tryz.underlying82 hi hz0 hz1 hz2 hzs (by decide) _ _ _ rfl (World.ownsRow.alloc Hrow1.out _) ⟨W.heap.size, 0, none⟩ 1 1 [.int .i64 na, .int .i64 nb] rfl rfl (World.news_of_block (blk_new _ _)) (by intro u hu; simp at hu; rcases hu with rfl | rfl <;> rfl) (by unfold maxLen; omega) (by omega) (by simp; omega) ?_; intro v' w1 hown' hgrow _; obtain ⟨g', cap', rfl⟩ := ownsRow_succ hown'; obtain ⟨hv1, hv2, hr2, hk2, hb2⟩ := Hv1.out.appended (by decide) (row_less Hrow1.out (show w.heap.size ≤ w.heap.size + 6 by omega)) (show w.heap.size ≤ W.heap.size by omega) (by omega) (row_less hown' (show w.heap.size ≤ w.heap.size + 6 by omega)) hgrow; have Hown' := Lib.hid hown'; have Hgrow := Lib.hid hgrow; have Hk2 := Lib.hid hk2; have Hb2 := Lib.hid hb2; have c1 := hv1.cell; have f1 := hv1.frozen; clear hown' hgrow hk2 hb2 hr2))
          obtain ⟨o1, o2⟩ := good_out (x := x) (hx := hx) HP.out HLL.out n1 hv1 Hrow.out Hown'.out Hgrow.out Hval.out Hok.out
          exact ⟨KeepsOthers.from (show KeepsOthers W _ from ⟨Hk2.out.size, Hk2.out.same⟩) _, o1, o2⟩
    -- BODY ENDS
  case done =>
    rintro D xs W hD hx hP hK
    have Hres := Lib.hid (show parseS s.data.toList = some ((parts xs).map partV) by unfold parseS; rw [← hx, if_pos (List.all_eq_true.2 hP.ok)])
    obtain ⟨v, hv, hrow⟩ := hP.box
    clear hx
    generalize (parts xs).map partV = L at Hres hrow
    obtain ⟨A, c, e9⟩ : ∃ A c, v = .slice A L.length c := by
      rcases hrow.2 with ⟨h1, h2⟩ | ⟨g, cap, cur, h1, _⟩
      · exact ⟨none, 0, by rw [h1, h2]⟩
      · exact ⟨_, _, h1⟩
    subst e9
    have c2 := hv.cell
    have c0 := hP.r0.cell
    have f0 := hP.r0.frozen
    have c1 := hP.r1.cell
    have f1 := hP.r1.frozen
    gi_wp2
    have p0 := (hP.r0.set (.slice A L.length c)).other (show w.heap.size ≠ w.heap.size + 1 by omega) (.int .i64 0)
    have p1 := (hP.r1.other (show w.heap.size + 1 ≠ w.heap.size by omega) (.slice A L.length c)).set (.int .i64 0)
    have hK2 := (KeepsOthers.setCell (W.setCell ⟨w.heap.size, 0, none⟩ (.slice A L.length c)) ⟨w.heap.size + 1, 0, none⟩ (.int .i64 0)).same D _ ((KeepsOthers.setCell W ⟨w.heap.size, 0, none⟩ (.slice A L.length c)).same D _ hK rfl) rfl
    have hrow2 := ownsRow_setCell_below (ownsRow_setCell_below hrow (a := ⟨w.heap.size, 0, none⟩) (by show w.heap.size < w.heap.size + 6; omega) (.slice A L.length c)) (a := ⟨w.heap.size + 1, 0, none⟩) (by show w.heap.size + 1 < w.heap.size + 6; omega) (.int .i64 0)
    have hB2 := (hP.bel.setCell (p := ⟨w.heap.size, 0, none⟩) (Nat.le_refl _) (.slice A L.length c)).setCell (p := ⟨w.heap.size + 1, 0, none⟩) (by show w.heap.size ≤ w.heap.size + 1; omega) (.int .i64 0)
    refine ⟨by simp, .inl ⟨_, _, rfl, run_takeDeferred hK2, ?_⟩⟩
    generalize (W.setCell ⟨w.heap.size, 0, none⟩ (.slice A L.length c)).setCell ⟨w.heap.size + 1, 0, none⟩ (.int .i64 0) = W2 at p0 p1 hK2 hrow2 hB2 ⊢
    have q0 := (p0.kept (grownBy_putObj' W2 D (.deferred none)) (fun e => by injection e; omega)).cell
    have q1 := (p1.kept (grownBy_putObj' W2 D (.deferred none)) (fun e => by injection e; omega)).cell
    refine ⟨_, by simp [results, go_sem, q0, q1]; rfl, ?_⟩
    rw [Hres.out]
    exact ⟨_, rfl, row_less (ownsRow_putObj hrow2 _ hK2 rfl) (by omega), hB2.grown (grownBy_putObj' W2 D _) hB2.size (fun k e => by cases e; omega)⟩
  case stop =>
    rintro D c pre W hD ⟨q, hq⟩ ⟨rfl, hX⟩ hK
    have hres : parseS s.data.toList = none := by
      obtain ⟨p, hp, hbad⟩ := hX.bad
      unfold parseS
      rw [if_neg]
      intro h
      have := List.all_eq_true.1 h p (by rw [← hq]; exact List.mem_append_left _ hp)
      rw [hbad] at this; cases this
    rw [hres]
    gi_wp2
    have p0 := hX.r0
    have p1 := hX.r1
    refine ⟨by simp, .inl ⟨_, _, rfl, run_takeDeferred hK, ?_⟩⟩
    have q0 := (p0.kept (grownBy_putObj' W D (.deferred none)) (fun e => by injection e; omega)).cell
    have q1 := (p1.kept (grownBy_putObj' W D (.deferred none)) (fun e => by injection e; omega)).cell
    refine ⟨_, by simp [results, go_sem, q0, q1]; rfl, ?_⟩
    exact ⟨rfl, hX.bel.grown (grownBy_putObj' W D _) hX.bel.size (fun k e => by cases e; omega)⟩
end Go.Proofs.YtkgngahmpafdhaaGreatDoor.SP
