/- Where the document's Key of layer 20 ends. Conditions: lengths. -/
import Derived.Test.YtkgngahmpafdhaaGreatDoorQNPlain
import Derived.Test.YtkgngahmpafdhaaGreatDoorQNField
import Derived.Test.YtkgngahmpafdhaaGreatDoorQueryKey2
import Derived.Test.YtkgngahmpafdhaaGreatDoorSpanRefParse
namespace Go.Proofs.YtkgngahmpafdhaaGreatDoor.QN
open Go.RowKit Mailsack MM PT QU SP

theorem k_all : kindOf wALL = some (.flags 0 0) := rfl
theorem k_new : kindOf wNEW = some (.flags 32 1) := rfl
theorem k_not : kindOf wNOT = some .not := rfl
theorem k_or : kindOf wOR = some .or := rfl
theorem k_header : kindOf wHEADER = some .header := rfl
theorem k_text : kindOf wTEXT = some (.text false) := rfl
theorem k_body : kindOf wBODY = some (.text true) := rfl
theorem k_larger : kindOf wLARGER = some (.size true) := rfl
theorem k_smaller : kindOf wSMALLER = some (.size false) := rfl
theorem k_uid : kindOf wUID = some .uid := rfl
def fdW : List Bs := [wFROM, wTO, wSUBJECT]
theorem k_field : ∀ w ∈ fdW, ∃ nm, kindOf w = some (.field nm) := by
  intro w hw
  simp only [fdW, List.mem_cons, List.not_mem_nil, or_false] at hw
  rcases hw with rfl | rfl | rfl <;> exact ⟨_, rfl⟩
theorem k_flag {u : Bs} (h : flagP u = true) : ∃ t m, kindOf u = some (.flags t m) := by
  unfold flagP at h
  simp only [flW, List.any_cons, List.any_nil, Bool.or_false, Bool.or_eq_true, decide_eq_true_eq] at h
  rcases h with ((h | h) | h) | h
  · rcases h with rfl | rfl | rfl | rfl | rfl <;> exact ⟨_, _, rfl⟩
  · rcases h with rfl | rfl | rfl | rfl | rfl <;> exact ⟨_, _, rfl⟩
  · subst h; exact ⟨_, _, rfl⟩
  · subst h; exact ⟨_, _, rfl⟩
theorem k_last {u : Bs} {kd : QKind} (h : kindOf u = some kd) (h0 : flagP u = false) (h1 : ¬ u = wALL) (h2 : ¬ u = wNEW) (h3 : ¬ u = wNOT) (h4 : ¬ u = wOR) :
    (u = wHEADER ∧ kd = .header) ∨ (u ∈ fdW ∧ ∃ nm, kd = .field nm) ∨ (u = wTEXT ∧ kd = .text false) ∨ (u = wBODY ∧ kd = .text true) ∨ (u = wLARGER ∧ kd = .size true) ∨ (u = wSMALLER ∧ kd = .size false) ∨ (u = wUID ∧ kd = .uid) := by
  have hm := kind_mem h
  simp only [kinds, List.mem_cons, List.not_mem_nil, or_false, Prod.mk.injEq] at hm
  rcases hm with h | h | h | h | h | h | h | h | h | h | h | h | h | h | h | h | h | h | h | h | h | h | h | h | h
  all_goals (obtain ⟨rfl, rfl⟩ := h)
  all_goals first
    | exact absurd rfl h1
    | exact absurd rfl h2
    | exact absurd rfl h3
    | exact absurd rfl h4
    | exact absurd h0 (by decide)
    | exact .inl ⟨rfl, rfl⟩
    | exact .inr (.inl ⟨by decide, _, rfl⟩)
    | exact .inr (.inr (.inl ⟨rfl, rfl⟩))
    | exact .inr (.inr (.inr (.inl ⟨rfl, rfl⟩)))
    | exact .inr (.inr (.inr (.inr (.inl ⟨rfl, rfl⟩))))
    | exact .inr (.inr (.inr (.inr (.inr (.inl ⟨rfl, rfl⟩)))))
    | exact .inr (.inr (.inr (.inr (.inr (.inr ⟨rfl, rfl⟩)))))
section
variable {n : Nat} {L : List Bs} {p : Nat} {s u : Bs}
theorem pos_short (h : L[p]? = some s) (hl : L.length = p + 1) (hu : upP s = u) (hset : parseS s = none) (h0 : flagP u = false) (h1 : ¬ u = wALL) (h2 : ¬ u = wNEW) (h3 : ¬ u = wNOT) (h4 : ¬ u = wOR) : posP (n + 1) L p = -1 := by
  refine posP_none ?_
  rw [drop_get h, List.drop_of_length_le (by omega)]
  unfold keyP
  cases hk : kindOf (upP s) with
  | none => simp only; rw [hset]; rfl
  | some kd =>
    rw [hu] at hk
    rcases k_last hk h0 h1 h2 h3 h4 with ⟨_, rfl⟩ | ⟨_, _, rfl⟩ | ⟨_, rfl⟩ | ⟨_, rfl⟩ | ⟨_, rfl⟩ | ⟨_, rfl⟩ | ⟨_, rfl⟩ <;> rfl
theorem pos_final {t : Bs} (h : L[p]? = some s) (ht : L[p + 1]? = some t) (hu : upP s = u) (hset : parseS s = none) (h0 : flagP u = false) (h1 : ¬ u = wALL) (h2 : ¬ u = wNEW) (h3 : ¬ u = wNOT) (h4 : ¬ u = wOR)
    (h5 : ¬ u = wHEADER) (h6 : ∀ w ∈ fdW, ¬ u = w) (h7 : ¬ u = wTEXT) (h8 : ¬ u = wBODY) (h9 : u = wLARGER → numQ t = none) (h10 : u = wSMALLER → numQ t = none) (h11 : u = wUID → parseS t = none) : posP (n + 1) L p = -1 := by
  refine posP_none ?_
  rw [drop_get h, drop_get ht]
  unfold keyP
  cases hk : kindOf (upP s) with
  | none => simp only; rw [hset]; rfl
  | some kd =>
    rw [hu] at hk
    rcases k_last hk h0 h1 h2 h3 h4 with ⟨e, rfl⟩ | ⟨e, _, rfl⟩ | ⟨e, rfl⟩ | ⟨e, rfl⟩ | ⟨e, rfl⟩ | ⟨e, rfl⟩ | ⟨e, rfl⟩
    · exact absurd e h5
    · exact absurd rfl (h6 u e)
    · exact absurd e h7
    · exact absurd e h8
    · show ((numQ t).map _).map _ = none; rw [h9 e]; rfl
    · show ((numQ t).map _).map _ = none; rw [h10 e]; rfl
    · show ((parseS t).map _).map _ = none; rw [h11 e]; rfl
theorem pos_nameless {R : List (Int × Int)} (h : L[p]? = some s) (hp : parseS s = some R) : posP (n + 1) L p = (p : Int) + 1 := by
  refine pos_set h ?_ hp
  cases hk : kindOf (upP s) with
  | none => rfl
  | some kd => rw [name_no_set hk] at hp; cases hp
end
/-- where a key ends -/
def RK (W : World) (x : Int) (e : Ending) (W' : World) : Prop := (∃ b, e = .returned (.tuple #[.bool b, .int .i64 x])) ∧ Below W.heap.size W W'
def KeyR (n : Nat) : Prop := ∀ (W : World) (sv : Value) (L : List Bs) (p lv : Nat) (v : QV), lv + n = 17 → RdS W W.heap.size sv L → Short L → p ≤ L.length → GoodV v →
  Calls Tryz.prog 8 #[sv, .int .i64 (p : Int), .int .i64 (lv : Int), viewV v] W (RK W (posP n L p))

set_option maxHeartbeats 8000000 in
set_option maxRecDepth 100000 in
theorem rkey_zero : KeyR 0 := by
  intro W sv L p lv v hlv hv hs hp hg
  obtain ⟨A, c, rfl, hc, _⟩ := hv
  have HB1 := Lib.hid ((Below.refl W.heap.size W).alloc (Nat.le_refl _) (viewR v))
  have hlv : lv = 17 := by omega
  have hL := hs.1
  subst hlv
  rw [posP_zero]
  clear hs hg
  unfold viewV
  have h16 : ((17 : Nat) : Int) = 17 := rfl
  rw [h16]
  by_cases hpl : p < L.length
  all_goals
    go_enter Tryz.func8, Tryz.ntmps8
    go_wp2
    go_ret2
    exact ⟨⟨_, rfl⟩, HB1.out⟩
end Go.Proofs.YtkgngahmpafdhaaGreatDoor.QN
