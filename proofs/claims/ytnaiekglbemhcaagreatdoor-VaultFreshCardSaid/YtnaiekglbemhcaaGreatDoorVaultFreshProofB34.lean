/- Contracts of functions of the program. Conditions: those that each theorem states. -/
import Derived.Test.YtnaiekglbemhcaaGreatDoorVaultFreshProofB06
import Derived.Test.YtnaiekglbemhcaaGreatDoorVaultFreshProofB07
import Derived.Test.YtnaiekglbemhcaaGreatDoorVaultFreshProofB08
import Derived.Test.YtnaiekglbemhcaaGreatDoorVaultFreshProofB15
set_option maxHeartbeats 8000000
set_option maxRecDepth 100000
namespace Mailsack
def xAt (h : List Nat) (i j : Nat) : List Nat := (h.set i (h.getD j 0)).set j (h.getD i 0)
theorem xCt (h : List Nat) (i j : Nat) : (xAt h i j).length = h.length := by simp [xAt]
end Mailsack
namespace Go.Proofs.AL
open Go.RowKit Mailsack MM SV
def xM4 (l : List Nat) : List Value := l.map fun (x : Nat) => Value.int .i64 (x : Int)
def vQ (W : World) (g : Nat) (h : List Nat) (rest : List Value) : Prop := W.heap[g]? = some (.cells (xM4 h ++ rest).toArray 3 (0,0))
theorem vQ.blk {W : World} {g : Nat} {h : List Nat} {rest : List Value} (hr : vQ W g h rest) : W.heap[g]? = some (.cells (xM4 h ++ rest).toArray 3 (0,0)) := hr
theorem vQ.cell {W : World} {g : Nat} {h : List Nat} {rest : List Value} (hr : vQ W g h rest) {i : Nat} (hi : i < h.length) : W.cell? ⟨g,i,none⟩ = some (.int .i64 ((h.getD i 0 : Nat) : Int)) := by
 rw [xA hr.blk,List.getElem?_toArray,List.getElem?_append_left (by simp [xM4]; exact hi)]
 simp [xM4,hi]
theorem vQ.free {W : World} {g : Nat} {h : List Nat} {rest : List Value} (hr : vQ W g h rest) (i : Nat) : W.frozen? ⟨g,i,none⟩ = false := xK hr.blk i
theorem vQ.put {W : World} {g : Nat} {h : List Nat} {rest : List Value} (hr : vQ W g h rest) {i : Nat} (hi : i < h.length) (x : Nat) : vQ (W.setCell ⟨g,i,none⟩ (.int .i64 (x : Int))) g (h.set i x) rest := by
 have := yB hr.blk i (.int .i64 (x : Int))
 unfold vQ
 rw [this]
 congr 2
 rw [List.setIfInBounds_toArray,List.set_append_left _ _ (by simp [xM4]; exact hi)]
 simp [xM4,List.map_set]
theorem vQ.below {W W' : World} {g : Nat} {h : List Nat} {rest : List Value} (hr : vQ W g h rest) (hb : Below W.heap.size W W') : vQ W' g h rest := xE hr.blk hb (xI hr.blk)
theorem vQ.drew {W : World} {g : Nat} {h : List Nat} {rest : List Value} (hr : vQ W g h rest) : vQ W.drew g h rest := hr
theorem vQ.far {W : World} {g : Nat} {h : List Nat} {rest : List Value} (hr : vQ W g h rest) {p : Addr} (hp : g ≠ p.block) (u : Value) : vQ (W.setCell p u) g h rest := xZ hr.blk hp u
theorem xN9 (A : Option Addr) (n c : Nat) (w : World) :
  Calls Tryz.prog 247 #[.slice A n c] w fun e w' => e = .returned (.int .i64 n) ∧ w' = w := by
 go_enter Tryz.func247,Tryz.ntmps247
 go_wp2
 go_ret
 exact ⟨rfl,rfl⟩
theorem xXy (g n c : Nat) (h : List Nat) (rest : List Value) (i j : Nat) (w : World) (hr : vQ w g h rest) (hn : n ≤ h.length) (hi : i < n) (hj : j < n) :
  Calls Tryz.prog 248 #[.slice (some ⟨g,0,none⟩) n c,.int .i64 i,.int .i64 j] w fun e w' => e = .returned (.bool (decide (h.getD i 0 < h.getD j 0))) ∧ Below w.heap.size w w' := by
 have c0 := hr.cell (i := i) (by omega)
 have c1 := hr.cell (i := j) (by omega)
 generalize h.getD i 0 = x at c0 ⊢
 generalize h.getD j 0 = y at c1 ⊢
 have hii : (i : Int) < (n : Int) := by omega
 have hjj : (j : Int) < (n : Int) := by omega
 clear hr hn hi hj
 go_enter Tryz.func248,Tryz.ntmps248
 go_upto_region 1 with fail
 refine RG.xR (fun W => Hid (Below w.heap.size w W ∧ W.cell? ⟨g,i,none⟩ = some (.int .i64 (x : Int)) ∧ W.cell? ⟨g,j,none⟩ = some (.int .i64 (y : Int)))) (by kernel_rfl) (by kernel_rfl) (hI' ⟨(Below.refl w.heap.size w).drew,c0,c1⟩) ?_
 clear c0 c1
 iterate 3
  apply RG.xC
  ·intro w9 hw9
   repeat go_step
   with_reducible exact RG.xB hw9
  ·rfl
 apply RG.xC
 ·intro w9 hw9
  have q := hw9.out.2.1
  repeat go_step
  with_reducible exact RG.xB hw9
 ·rfl
 iterate 3
  apply RG.xC
  ·intro w9 hw9
   repeat go_step
   with_reducible exact RG.xB hw9
  ·rfl
 apply RG.xC
 ·intro w9 hw9
  have q := hw9.out.2.2
  repeat go_step
  with_reducible exact RG.xB hw9
 ·rfl
 iterate 2
  apply RG.xC
  ·intro w9 hw9
   repeat go_step
   with_reducible exact RG.xB hw9
  ·rfl
 refine RG.xW (fun w1 hw1 => ?_)
 go_wp2
 go_ret
 exact ⟨rfl,hw1.out.1⟩
theorem xX3 (g n c : Nat) (h : List Nat) (rest : List Value) (i j : Nat) (w : World) (hr : vQ w g h rest) (hn : n ≤ h.length) (hi : i < n) (hj : j < n) :
  Calls Tryz.prog 249 #[.slice (some ⟨g,0,none⟩) n c,.int .i64 i,.int .i64 j] w fun e w' => e = .returned (.tuple #[]) ∧ vQ w' g (xAt h i j) rest ∧ Tn (fun k => k = g) w w' := by
 have HS : Hid (xAt h i j = (h.set i (h.getD j 0)).set j (h.getD i 0)) := hI' rfl
 have hih : i < h.length := by omega
 have hjh : j < h.length := by omega
 have HIH := hI' (And.intro hih hjh)
 obtain ⟨x,hx⟩ : ∃ x,h.getD i 0 = x := ⟨_,rfl⟩
 obtain ⟨y,hy⟩ : ∃ y,h.getD j 0 = y := ⟨_,rfl⟩
 rw [hx,hy] at HS
 have HX := hI' (And.intro hx hy)
 have hii : (i : Int) < (n : Int) := by omega
 have hjj : (j : Int) < (n : Int) := by omega
 have H0 : Hid (vQ w g h rest ∧ Tn (fun k => k = g) w w) := hI' ⟨hr,Tn.refl _ _⟩
 clear hr hn hi hj hih hjh hx hy
 go_enter Tryz.func249,Tryz.ntmps249
 refine RG.yN 16 (fun L W => Hid (vQ W g (if L 15 then (if L 13 then h.set i y else h).set j x else (if L 13 then h.set i y else h)) rest ∧ Tn (fun k => k = g) w W)) (fun L L' W h hI => by rw [← h 13 (by decide),← h 15 (by decide)]; exact hI) (by kernel_rfl) (by kernel_rfl) rfl (hI' ⟨H0.out.1.drew,H0.out.2.drew⟩) ?_
 clear H0
 iterate 7
  apply RG.xJ
  ·rfl
  ·rfl
  ·intro L w9 h0 hcl xH hw9
   repeat go_step
   with_reducible refine RG.xB ?_
   exact ⟨xH,hw9⟩
  ·rfl
 apply RG.xJ
 ·rfl
 ·rfl
 ·intro L w9 h0 hcl xH hw9
  have e1 := hcl.not 16 (i := 13) h0 (by kernel_rfl)
  have e2 := hcl.not 16 (i := 15) h0 (by kernel_rfl)
  have hs9 := hw9.out.1
  rw [e1,e2,if_neg (c := false = true) (by simp),if_neg (c := false = true) (by simp)] at hs9
  have q := hs9.cell (i := j) HIH.out.2
  rw [HX.out.2] at q
  clear e1 e2 hs9
  repeat go_step
  with_reducible refine RG.xB ?_
  exact ⟨xH,hw9⟩
 ·rfl
 iterate 3
  apply RG.xJ
  ·rfl
  ·rfl
  ·intro L w9 h0 hcl xH hw9
   repeat go_step
   with_reducible refine RG.xB ?_
   exact ⟨xH,hw9⟩
  ·rfl
 apply RG.xJ
 ·rfl
 ·rfl
 ·intro L w9 h0 hcl xH hw9
  have e1 := hcl.not 16 (i := 13) h0 (by kernel_rfl)
  have e2 := hcl.not 16 (i := 15) h0 (by kernel_rfl)
  have hs9 := hw9.out.1
  rw [e1,e2,if_neg (c := false = true) (by simp),if_neg (c := false = true) (by simp)] at hs9
  have q := hs9.cell (i := i) HIH.out.1
  rw [HX.out.1] at q
  clear e1 e2 hs9
  repeat go_step
  with_reducible refine RG.xB ?_
  exact ⟨xH,hw9⟩
 ·rfl
 apply RG.xJ
 ·rfl
 ·rfl
 ·intro L w9 h0 hcl xH hw9
  repeat go_step
  with_reducible refine RG.xB ?_
  exact ⟨xH,hw9⟩
 ·rfl
 apply RG.xJ
 ·rfl
 ·rfl
 ·intro L w9 h0 hcl xH hw9
  have e2 := hcl.not 16 (i := 15) h0 (by kernel_rfl)
  obtain ⟨hs9,ht9⟩ := hw9.out
  rw [h0,e2,if_neg (c := false = true) (by simp),if_neg (c := false = true) (by simp)] at hs9
  have q := hs9.cell (i := i) HIH.out.1
  rw [HX.out.1] at q
  have q1 := hs9.free i
  have hp : Hid (vQ (w9.setCell ⟨g,i,none⟩ (.int .i64 (y : Int))) g (h.set i y) rest ∧ Tn (fun k => k = g) w (w9.setCell ⟨g,i,none⟩ (.int .i64 (y : Int)))) := hI' ⟨hs9.put HIH.out.1 y,ht9.set (p := ⟨g,i,none⟩) (.inl rfl) _⟩
  have E2 := hI' e2
  clear hs9 ht9 e2
  repeat go_step
  with_reducible refine RG.xB ?_
  refine ⟨xH,?_⟩
  show Hid (vQ _ g (if L 15 = true then _ else (if (true : Bool) = true then h.set i y else h)) rest ∧ _)
  rw [E2.out,if_neg (c := false = true) (by simp),if_pos rfl]
  with_reducible exact hp
 ·rfl
 apply RG.xJ
 ·rfl
 ·rfl
 ·intro L w9 h0 hcl xH hw9
  repeat go_step
  with_reducible refine RG.xB ?_
  exact ⟨xH,hw9⟩
 ·rfl
 apply RG.xJ
 ·rfl
 ·rfl
 ·intro L w9 h0 hcl xH hw9
  have e1 : L 13 = true := by
   have := xH.yes 16 (i := 15) (j := 13) (by simp) (by kernel_rfl)
   simpa using this
  obtain ⟨hs9,ht9⟩ := hw9.out
  rw [h0,e1,if_neg (c := false = true) (by simp),if_pos rfl] at hs9
  have q := hs9.cell (i := j) (by rw [List.length_set]; exact HIH.out.2)
  have q1 := hs9.free j
  have hp : Hid (vQ (w9.setCell ⟨g,j,none⟩ (.int .i64 (x : Int))) g ((h.set i y).set j x) rest ∧ Tn (fun k => k = g) w (w9.setCell ⟨g,j,none⟩ (.int .i64 (x : Int)))) := hI' ⟨hs9.put (by rw [List.length_set]; exact HIH.out.2) x,ht9.set (p := ⟨g,j,none⟩) (.inl rfl) _⟩
  have E1 := hI' e1
  clear hs9 ht9 e1
  repeat go_step
  with_reducible refine RG.xB ?_
  refine ⟨xH,?_⟩
  show Hid (vQ _ g (if (true : Bool) = true then (if L 13 = true then h.set i y else h).set j x else _) rest ∧ _)
  rw [E1.out,if_pos rfl,if_pos rfl]
  with_reducible exact hp
 ·rfl
 refine RG.yP (fun w9 hw9 => ?_)
 rw [if_pos rfl,if_pos rfl,← HS.out] at hw9
 go_wp2
 refine bodyPost_end (results_none rfl _ _ _) rfl ?_
 exact ⟨rfl,hw9.out.1,hw9.out.2⟩
end Go.Proofs.AL
namespace Go.Proofs.AL
open Go.RowKit Mailsack MM SV
abbrev numI (gp : Nat) : Value := .iface 168 (.pointer (some ⟨gp,1,none⟩))
theorem xXn (gp g n c : Nat) (h : List Nat) (rest : List Value) (w : World) (hc : w.cell? ⟨gp,1,none⟩ = some (.slice (some ⟨g,0,none⟩) (n + 1) c)) (hf : w.frozen? ⟨gp,1,none⟩ = false) (hr : vQ w g h rest) (hn : n + 1 = h.length) (hcc : n + 1 ≤ c) (hn2 : n < 1000000) :
  Calls Tryz.prog 250 #[.pointer (some ⟨gp,1,none⟩)] w fun e w' => e = .returned (.iface 3 (.int .i64 ((h.getD n 0 : Nat) : Int))) ∧ w' = w.setCell ⟨gp,1,none⟩ (.slice (some ⟨g,0,none⟩) n c) := by
 have q := hr.cell (i := n) (by omega)
 generalize h.getD n 0 = x at q ⊢
 have e1 : (((n + 1 : Nat) : Int)) = (n : Int) + 1 := by omega
 have e2 : (n : Int) + 1 - 1 = n := by omega
 have e3 : (n : Int) < ((n + 1 : Nat) : Int) := by omega
 have e4 : (n : Int) ≤ (c : Int) := by omega
 have e5 : ¬ ((n : Int) < 0) := by omega
 clear hr hn
 go_enter Tryz.func250,Tryz.ntmps250
 go_wp2
 go_ret
 exact ⟨rfl,rfl⟩
theorem row_of {P : Program} {t : TypeId} {name : String} {f : FuncId} {pr : Bool} (h : ((P.info? t).bind fun i => (i.methods.find? (·.name == name)).map fun m => (m.path.toList.length,m.func)) = some (0,some (f,pr))) :
  ∃ i m,P.info? t = some i ∧ i.methods.find? (·.name == name) = some m ∧ m.path = #[] ∧ m.func = some (f,pr) := by
 cases hi : P.info? t with
 | none => rw [hi] at h; cases h
 | some i =>
  rw [hi] at h
  simp only [Option.bind_some] at h
  cases hm : i.methods.find? (·.name == name) with
  | none => rw [hm] at h; cases h
  | some m =>
   rw [hm] at h
   simp only [Option.map_some,Option.some.injEq,Prod.mk.injEq] at h
   exact ⟨i,m,rfl,hm,by
    have := List.eq_nil_of_length_eq_zero h.1
    exact Array.toList_eq_nil_iff.1 this,h.2⟩
theorem yB0 {name : String} {f : FuncId} (h : ((Tryz.prog.info? 168).bind fun i => (i.methods.find? (·.name == name)).map fun m => (m.path.toList.length,m.func)) = some (0,some (f,false)))
  (n : Nat) (a : Addr) (w : World) (A : Option Addr) (k c : Nat) (hc : w.cell? a = some (.slice A k c)) : (method (n + 1) 168 (.pointer (some a)) name).run Tryz.prog w = .ok (f,.slice A k c) w := by
 obtain ⟨i,m,h1,h2,h3,h4⟩ := row_of (P := Tryz.prog) h
 have hu := Tryz.underlying168
 have hl : (loadVar 164 a).run Tryz.prog w = .ok (.slice A k c) w := by
  unfold loadVar
  simp [go_sem,hc]
 have hw : ∀ t nm,Builtin.ssaWrapNilChk_ #[t] t #[.pointer (some a),strVal "",strVal nm] = pure (.pointer (some a)) := fun _ _ => rfl
 unfold method
 simp [typeInfo,h1,h2,h3,h4,follow,receiverAt,underlying,hu,Place.get,hw,asAddr,hl]
theorem m_ptr {name : String} {f : FuncId} (h : ((Tryz.prog.info? 168).bind fun i => (i.methods.find? (·.name == name)).map fun m => (m.path.toList.length,m.func)) = some (0,some (f,true)))
  (n : Nat) (a : Addr) (w : World) : (method (n + 1) 168 (.pointer (some a)) name).run Tryz.prog w = .ok (f,.pointer (some a)) w := by
 obtain ⟨i,m,h1,h2,h3,h4⟩ := row_of (P := Tryz.prog) h
 have hu := Tryz.underlying168
 unfold method
 simp [typeInfo,h1,h2,h3,h4,follow,receiverAt,underlying,hu,Place.get]
theorem yB1 (n : Nat) (a : Addr) (w : World) (A : Option Addr) (k c : Nat) (hc : w.cell? a = some (.slice A k c)) : (method (n + 1) 168 (.pointer (some a)) "Len").run Tryz.prog w = .ok (247,.slice A k c) w := yB0 (by kernel_rfl) n a w A k c hc
theorem xOy (n : Nat) (a : Addr) (w : World) (A : Option Addr) (k c : Nat) (hc : w.cell? a = some (.slice A k c)) : (method (n + 1) 168 (.pointer (some a)) "Less").run Tryz.prog w = .ok (248,.slice A k c) w := yB0 (by kernel_rfl) n a w A k c hc
theorem xOx (n : Nat) (a : Addr) (w : World) (A : Option Addr) (k c : Nat) (hc : w.cell? a = some (.slice A k c)) : (method (n + 1) 168 (.pointer (some a)) "Swap").run Tryz.prog w = .ok (249,.slice A k c) w := yB0 (by kernel_rfl) n a w A k c hc
theorem m_pop (n : Nat) (a : Addr) (w : World) : (method (n + 1) 168 (.pointer (some a)) "Pop").run Tryz.prog w = .ok (250,.pointer (some a)) w := m_ptr (by kernel_rfl) n a w
theorem yA9 {P : Nat → Prop} {a b : World} (h : Tn P a b) {p : Addr} (hp : p.block < a.heap.size) (hn : ¬ P p.block) : b.cell? p = a.cell? p := by
 unfold World.cell?
 rw [h.block _ hp hn]
theorem xT3 {P : Nat → Prop} {a b : World} (h : Tn P a b) {p : Addr} (hp : p.block < a.heap.size) (hn : ¬ P p.block) : b.frozen? p = a.frozen? p := by
 unfold World.frozen?
 rw [h.block _ hp hn]
theorem xJp (g N c : Nat) (h : List Nat) (rest : List Value) (a b : Nat) (x y : Int) (w : World) (hr : vQ w g h rest) (hN : N = h.length) (hx : x = a) (hy : y = b) (ha : a < N) (hb : b < N) :
  Calls Tryz.prog 248 #[.slice (some ⟨g,0,none⟩) N c,.int .i64 x,.int .i64 y] w fun e w' => e = .returned (.bool (decide (h.getD a 0 < h.getD b 0))) ∧ Below w.heap.size w w' := by
 subst hx hy
 exact xXy g N c h rest a b w hr (by omega) ha hb
theorem xIz (g N c : Nat) (h : List Nat) (rest : List Value) (a b : Nat) (x y : Int) (w : World) (hr : vQ w g h rest) (hN : N = h.length) (hx : x = a) (hy : y = b) (ha : a < N) (hb : b < N) :
  Calls Tryz.prog 249 #[.slice (some ⟨g,0,none⟩) N c,.int .i64 x,.int .i64 y] w fun e w' => e = .returned (.tuple #[]) ∧ vQ w' g (xAt h a b) rest ∧ Tn (fun k => k = g) w w' := by
 subst hx hy
 exact xX3 g N c h rest a b w hr (by omega) ha hb
structure DwI (w : World) (gp g N c : Nat) (h : List Nat) (rest : List Value) (W : World) : Prop where
 row : vQ W g h rest
 cell : W.cell? ⟨gp,1,none⟩ = some (.slice (some ⟨g,0,none⟩) N c)
 len : N = h.length
 tn : Tn (fun k => k = g) w W
 lt : gp < w.heap.size
 ne : gp ≠ g
theorem DwI.below {w : World} {gp g N c : Nat} {h : List Nat} {rest : List Value} {W W' : World} (h1 : DwI w gp g N c h rest W) (hb : Below W.heap.size W W') : DwI w gp g N c h rest W' :=
 ⟨h1.row.below hb,(hb.cell (p := ⟨gp,1,none⟩) (Nat.lt_of_lt_of_le h1.lt h1.tn.size)).trans h1.cell,h1.len,h1.tn.call hb,h1.lt,h1.ne⟩
theorem DwI.swap {w : World} {gp g N c : Nat} {h h' : List Nat} {rest : List Value} {W W' : World} (h1 : DwI w gp g N c h rest W) (hr : vQ W' g h' rest) (ht : Tn (fun k => k = g) W W') (hl : h'.length = h.length) : DwI w gp g N c h' rest W' :=
 ⟨hr,(yA9 ht (p := ⟨gp,1,none⟩) (Nat.lt_of_lt_of_le h1.lt h1.tn.size) h1.ne).trans h1.cell,by rw [hl]; exact h1.len,h1.tn.trans ht,h1.lt,h1.ne⟩
theorem xPt (gp g N c i0 n : Nat) (h : List Nat) (rest : List Value) (w : World) (hI : DwI w gp g N c h rest w) (hn : n ≤ N) (hN : N ≤ 1000000) (hi1 : i0 ≤ 1000000) :
  Calls Tryz.prog 152 #[numI gp,.int .i64 i0,.int .i64 n] w fun e w' => ∃ b,e = .returned (.bool b) ∧ DwI w gp g N c (wF h n n i0) rest w' := by
 have HI0 := hI' hI
 have HD0 : Hid (∀ h' f i,wF h n n i0 = wF h' n f i → wF h n n i0 = wF h' n f i) := hI' (fun _ _ _ e => e)
 clear hI HD0
 obtain ⟨res,hres⟩ : ∃ res,wF h n n i0 = res := ⟨_,rfl⟩
 have HR := hI' hres
 rw [hres]
 clear hres
 go_enter Tryz.func152,Tryz.ntmps152
 go_wp2_with fail
 go_loopw [7,8,9,10] (fun iv _ _ _ wr => ∃ (i f : Nat) (h' : List Nat),iv = .int .i64 i ∧ n ≤ i + f ∧ i ≤ 1000000 ∧ Hid (wF h' n f i = res) ∧ Hid (DwI w gp g N c h' rest wr)) (fun iv _ _ _ _ => n - (intOf iv).toNat)
 case atStart => exact ⟨i0,n,h,rfl,by omega,hi1,HR,HI0⟩
 case round =>
  obtain ⟨i,f,h',rfl,hf,hi,HDn,HI⟩ := hrel
  clear HR HI0
  by_cases hb : n ≤ 2 * i + 1
  ·have hbi : (n : Int) ≤ 2 * (i : Int) + 1 := by omega
   have HE : Hid (res = h') := hI' (by
    rw [← HDn.out]
    cases f with
    | zero => rfl
    | succ f => unfold wF; rw [if_pos hb])
   clear hb hf hn
   go_wp2
   go_ret
   refine ⟨_,rfl,?_⟩
   rw [HE.out]
   exact HI.out
  ·have hbi : ¬ ((n : Int) ≤ 2 * (i : Int) + 1) := by omega
   have hb0 : ¬ (2 * (i : Int) + 1 < 0) := by omega
   have hiN : i < N := by omega
   have HIN := hI' hiN
   obtain ⟨f,rfl⟩ : ∃ f',f = f' + 1 := ⟨f - 1,by omega⟩
   have HDK : Hid (∀ j,(if 2 * i + 2 < n ∧ h'.getD (2 * i + 2) 0 < h'.getD (2 * i + 1) 0 then 2 * i + 2 else 2 * i + 1) = j → (h'.getD j 0 < h'.getD i 0 → wF (xAt h' i j) n f j = res) ∧ (¬ h'.getD j 0 < h'.getD i 0 → res = h')) := hI' (fun j hj => by
    have := HDn.out
    unfold wF at this
    rw [if_neg hb] at this
    simp only at this
    rw [hj] at this
    refine ⟨fun hl => ?_,fun hl => ?_⟩
    ·rw [if_pos hl] at this; exact this
    ·rw [if_neg hl] at this; exact this.symm)
   clear HDn
   by_cases h2 : 2 * i + 2 < n
   ·have h2i : 2 * (i : Int) + 1 + 1 < (n : Int) := by omega
    have H2N : Hid (2 * i + 2 < N ∧ 2 * i + 1 < N) := hI' ⟨by omega,by omega⟩
    go_wp2_with fail
    rw [xOy _ _ _ _ _ _ HI.out.cell]
    go_wp2_with fail
    refine (xJp g N c h' rest (2 * i + 2) (2 * i + 1) _ _ wr HI.out.row HI.out.len (by omega) (by omega) H2N.out.1 H2N.out.2).mono ?_
    rintro e w3 ⟨rfl,hb3⟩
    have HI3 := hI' (HI.out.below hb3)
    clear HI hb3
    have HI := HI3
    clear HI3
    generalize w3 = wr at HI ⊢
    by_cases hl : h'.getD (2 * i + 2) 0 < h'.getD (2 * i + 1) 0
    ·have HDJ := hI' (HDK.out (2 * i + 2) (by rw [if_pos ⟨h2,hl⟩]))
     rw [decide_eq_true hl]
     obtain ⟨j,hje⟩ : ∃ j,2 * i + 2 = j := ⟨_,rfl⟩
     have hj : 2 * (i : Int) + 1 + 1 = (j : Int) := by omega
     rw [hje] at HDJ
     clear hl HDK H2N
     have hjN : j < N := by omega
     have HJ := hI' hj
     have HJN := hI' hjN
     clear hj hjN
     go_wp2_with fail
     rw [xOy _ _ _ _ _ _ HI.out.cell]
     go_wp2_with fail
     refine (xJp g N c h' rest j i _ _ wr HI.out.row HI.out.len HJ.out rfl HJN.out HIN.out).mono ?_
     rintro e w5 ⟨rfl,hb5⟩
     have H5 := hI' (HI.out.below hb5)
     clear HI hb5
     by_cases hl2 : h'.getD j 0 < h'.getD i 0
     ·have HD5 := hI' (HDJ.out.1 hl2)
      rw [decide_eq_true hl2]
      clear hl2 HDJ
      go_wp2_with fail
      rw [xOx _ _ _ _ _ _ H5.out.cell]
      go_wp2_with fail
      refine (xIz g N c h' rest i j _ _ w5 H5.out.row H5.out.len rfl HJ.out HIN.out HJN.out).mono ?_
      rintro e w6 ⟨rfl,hr6,ht6⟩
      have H6 := hI' (H5.out.swap hr6 ht6 (xCt _ _ _))
      clear H5 hr6 ht6
      go_wp2
      have hj := HJ.out
      exact ⟨⟨j,f,xAt h' i j,by congr 1,by omega,by omega,HD5,H6⟩,by simp [intOf]; omega⟩
     ·have HD5 := hI' (HDJ.out.2 hl2)
      rw [decide_eq_false hl2]
      clear hl2 HDJ
      go_wp2
      go_ret
      refine ⟨_,rfl,?_⟩
      rw [HD5.out]
      exact H5.out
    ·have HDJ := hI' (HDK.out (2 * i + 1) (by rw [if_neg (fun x => hl x.2)]))
     rw [decide_eq_false hl]
     obtain ⟨j,hje⟩ : ∃ j,2 * i + 1 = j := ⟨_,rfl⟩
     have hj : 2 * (i : Int) + 1 = (j : Int) := by omega
     rw [hje] at HDJ
     clear hl HDK H2N
     have hjN : j < N := by omega
     have HJ := hI' hj
     have HJN := hI' hjN
     clear hj hjN
     go_wp2_with fail
     rw [xOy _ _ _ _ _ _ HI.out.cell]
     go_wp2_with fail
     refine (xJp g N c h' rest j i _ _ wr HI.out.row HI.out.len HJ.out rfl HJN.out HIN.out).mono ?_
     rintro e w5 ⟨rfl,hb5⟩
     have H5 := hI' (HI.out.below hb5)
     clear HI hb5
     by_cases hl2 : h'.getD j 0 < h'.getD i 0
     ·have HD5 := hI' (HDJ.out.1 hl2)
      rw [decide_eq_true hl2]
      clear hl2 HDJ
      go_wp2_with fail
      rw [xOx _ _ _ _ _ _ H5.out.cell]
      go_wp2_with fail
      refine (xIz g N c h' rest i j _ _ w5 H5.out.row H5.out.len rfl HJ.out HIN.out HJN.out).mono ?_
      rintro e w6 ⟨rfl,hr6,ht6⟩
      have H6 := hI' (H5.out.swap hr6 ht6 (xCt _ _ _))
      clear H5 hr6 ht6
      go_wp2
      have hj := HJ.out
      exact ⟨⟨j,f,xAt h' i j,by congr 1,by omega,by omega,HD5,H6⟩,by simp [intOf]; omega⟩
     ·have HD5 := hI' (HDJ.out.2 hl2)
      rw [decide_eq_false hl2]
      clear hl2 HDJ
      go_wp2
      go_ret
      refine ⟨_,rfl,?_⟩
      rw [HD5.out]
      exact H5.out
   ·have h2i : ¬ (2 * (i : Int) + 1 + 1 < (n : Int)) := by omega
    have HDJ := hI' (HDK.out (2 * i + 1) (by rw [if_neg (fun x => h2 x.1)]))
    obtain ⟨j,hje⟩ : ∃ j,2 * i + 1 = j := ⟨_,rfl⟩
    have hj : 2 * (i : Int) + 1 = (j : Int) := by omega
    rw [hje] at HDJ
    clear HDK
    have hjN : j < N := by omega
    have HJ := hI' hj
    have HJN := hI' hjN
    clear hj hjN
    go_wp2_with fail
    rw [xOy _ _ _ _ _ _ HI.out.cell]
    go_wp2_with fail
    refine (xJp g N c h' rest j i _ _ wr HI.out.row HI.out.len HJ.out rfl HJN.out HIN.out).mono ?_
    rintro e w5 ⟨rfl,hb5⟩
    have H5 := hI' (HI.out.below hb5)
    clear HI hb5
    by_cases hl2 : h'.getD j 0 < h'.getD i 0
    ·have HD5 := hI' (HDJ.out.1 hl2)
     rw [decide_eq_true hl2]
     clear hl2 HDJ
     go_wp2_with fail
     rw [xOx _ _ _ _ _ _ H5.out.cell]
     go_wp2_with fail
     refine (xIz g N c h' rest i j _ _ w5 H5.out.row H5.out.len rfl HJ.out HIN.out HJN.out).mono ?_
     rintro e w6 ⟨rfl,hr6,ht6⟩
     have H6 := hI' (H5.out.swap hr6 ht6 (xCt _ _ _))
     clear H5 hr6 ht6
     go_wp2
     have hj := HJ.out
     exact ⟨⟨j,f,xAt h' i j,by congr 1,by omega,by omega,HD5,H6⟩,by simp [intOf]; omega⟩
    ·have HD5 := hI' (HDJ.out.2 hl2)
     rw [decide_eq_false hl2]
     clear hl2 HDJ
     go_wp2
     go_ret
     refine ⟨_,rfl,?_⟩
     rw [HD5.out]
     exact H5.out
end Go.Proofs.AL
namespace Mailsack
theorem xXf {h : List Nat} (h0 : h.length ≠ 0) : (wF (xAt h 0 (h.length - 1)) (h.length - 1) (h.length - 1) 0).getD (h.length - 1) 0 = h.getD 0 0 := by
 have hsw : (xAt h 0 (h.length - 1))[h.length - 1]? = some (h.getD 0 0) := by
  unfold xAt
  rw [List.getElem?_set_self (by simp; omega)]
 rw [List.getD_eq_getElem?_getD]
 by_cases h1 : h.length = 1
 ·have hk : wF (xAt h 0 (h.length - 1)) (h.length - 1) (h.length - 1) 0 = xAt h 0 (h.length - 1) := by rw [h1]; rfl
  rw [hk,hsw]
  rfl
 ·rw [xEi _ _ _ _ _ (Nat.le_refl _) (by omega),hsw]
  rfl
theorem pop_eq (h : List Nat) : qP h = (wF (xAt h 0 (h.length - 1)) (h.length - 1) (h.length - 1) 0).dropLast := rfl
end Mailsack
namespace Go.Proofs.AL
open Go.RowKit Mailsack MM SV
theorem vQ.short {W : World} {g : Nat} {h : List Nat} {rest : List Value} (hr : vQ W g h rest) : vQ W g h.dropLast (xM4 (h.drop (h.length - 1)) ++ rest) := by
 have e : xM4 h = xM4 h.dropLast ++ xM4 (h.drop (h.length - 1)) := by
  unfold xM4
  rw [← List.map_append,List.dropLast_eq_take,List.take_append_drop]
 unfold vQ
 rw [← List.append_assoc,← e]
 exact hr
theorem xY9 (gp g N c : Nat) (h : List Nat) (rest : List Value) (w : World) (hI : DwI w gp g N c h rest w) (hN : N ≤ 1000000) :
  Calls Tryz.prog 95 #[numI gp] w fun e w' => e = .returned (.tuple #[]) ∧ DwI w gp g N c (xRg h) rest w' := by
 have HI0 := hI' hI
 have HE : Hid (∀ k,k = N / 2 → xLb h k = xRg h) := hI' (fun k hk => by rw [hk,hI.len]; rfl)
 have HDN := hI' (fun (h' : List Nat) (k : Nat) W (hw : DwI W gp g N c h' rest W) (hk : k + 1 ≤ N / 2) => xPt gp g N c k N h' rest W hw (Nat.le_refl _) hN (by omega))
 generalize xRg h = res at HE ⊢
 clear hI
 go_enter Tryz.func95,Tryz.ntmps95
 go_wp2_with fail
 rw [yB1 _ _ _ _ _ _ HI0.out.cell]
 go_wp2_with (go_at_call 247; refine (xN9 _ _ _ _).mono ?_; rintro e w1 ⟨rfl,rfl⟩)
 go_loopw [3] (fun iv wr => ∃ (k : Nat) (h' : List Nat),iv = .int .i64 ((k : Int) - 1) ∧ k ≤ N / 2 ∧ Hid (xLb h' k = res) ∧ Hid (DwI w1 gp g N c h' rest wr)) (fun iv _ => (intOf iv + 1).toNat)
 case atStart => exact ⟨N / 2,h,by congr 1,Nat.le_refl _,hI' (HE.out _ rfl),HI0⟩
 case round =>
  obtain ⟨k,h',rfl,hk,hR,HI⟩ := hrel
  clear HI0 HE
  cases k with
  | zero =>
   have hr0 : Hid (res = h') := hI' hR.out.symm
   go_wp2
   refine bodyPost_end (results_none rfl _ _ _) rfl ?_
   rw [hr0.out]
   exact ⟨rfl,HI.out⟩
  | succ k =>
   have hR2 : Hid (xLb (wF h' N N k) k = res) := hI' (by rw [← hR.out]; conv => rhs; unfold xLb; rw [← HI.out.len])
   rw [show ((k + 1 : Nat) : Int) - 1 = (k : Int) by omega]
   have HD1 := hI' (HDN.out h' k wr ⟨HI.out.row,HI.out.cell,HI.out.len,Tn.refl _ _,Nat.lt_of_lt_of_le HI.out.lt HI.out.tn.size,HI.out.ne⟩ hk)
   clear hR HDN
   go_wp2_with fail
   refine HD1.out.mono ?_
   rintro e w2 ⟨b,rfl,hw2⟩
   have H2 : Hid (DwI w1 gp g N c (wF h' N N k) rest w2) := hI' ⟨hw2.row,hw2.cell,hw2.len,HI.out.tn.trans hw2.tn,HI.out.lt,HI.out.ne⟩
   clear hw2 HI HD1
   go_wp2
   exact ⟨⟨k,_,by rfl,by omega,hR2,H2⟩,by simp [intOf]⟩
theorem xY8 (gp c : Nat) (A : Option Addr) (w : World) (hc : w.cell? ⟨gp,1,none⟩ = some (.slice A 0 c)) :
  Calls Tryz.prog 95 #[numI gp] w fun e w' => e = .returned (.tuple #[]) ∧ w' = w := by
 go_enter Tryz.func95,Tryz.ntmps95
 go_wp2_with fail
 rw [yB1 _ _ _ _ _ _ hc]
 go_wp2_with (go_at_call 247; refine (xN9 _ _ _ _).mono ?_; rintro e w1 ⟨rfl,rfl⟩)
 go_loopw [3] (fun iv wr => iv = .int .i64 (-1) ∧ wr = w1) (fun _ _ => 0)
 case atStart => exact ⟨rfl,rfl⟩
 case round =>
  obtain ⟨rfl,rfl⟩ := hrel
  go_wp2
  refine bodyPost_end (results_none rfl _ _ _) rfl ?_
  exact ⟨rfl,rfl⟩
theorem xYb (gp g n c : Nat) (h : List Nat) (rest : List Value) (w : World) (hI : DwI w gp g (n + 1) c h rest w) (hf : w.frozen? ⟨gp,1,none⟩ = false) (hc : n + 1 ≤ c) (hN : n + 1 ≤ 1000000) :
  Calls Tryz.prog 153 #[numI gp] w fun e w' => e = .returned (.iface 3 (.int .i64 ((h.getD 0 0 : Nat) : Int))) ∧ ∃ W rest',w' = W.setCell ⟨gp,1,none⟩ (.slice (some ⟨g,0,none⟩) n c) ∧ Tn (fun k => k = g) w W ∧ vQ W g (qP h) rest' := by
 have hl : h.length = n + 1 := hI.len.symm
 have H0 := hI' hI
 have hlast := xXf (h := h) (by omega)
 have hpe := pop_eq h
 rw [hl,show n + 1 - 1 = n by omega] at hlast hpe
 have HPE := hI' hpe
 have HLA := hI' hlast
 have HF := hI' (fun W (ht : Tn (fun k => k = g) w W) => (xT3 ht (p := ⟨gp,1,none⟩) hI.lt hI.ne).trans hf)
 clear hpe hlast hI
 go_enter Tryz.func153,Tryz.ntmps153
 go_wp2_with fail
 rw [yB1 _ _ _ _ _ _ H0.out.cell]
 go_wp2_with (go_at_call 247; refine (xN9 _ _ _ _).mono ?_; rintro e w1 ⟨rfl,rfl⟩)
 rw [xOx _ _ _ _ _ _ H0.out.cell]
 go_wp2_with fail
 refine (xIz g (n + 1) c h rest 0 n _ _ w1 H0.out.row H0.out.len rfl rfl (by omega) (by omega)).mono ?_
 rintro e w2 ⟨rfl,hr2,ht2⟩
 have H2 := hI' (H0.out.swap hr2 ht2 (xCt _ _ _))
 clear hr2 ht2
 have HDN := hI' (xPt gp g (n + 1) c 0 n (xAt h 0 n) rest w2 ⟨H2.out.row,H2.out.cell,H2.out.len,Tn.refl _ _,Nat.lt_of_lt_of_le H2.out.lt H2.out.tn.size,H2.out.ne⟩ (by omega) (by omega) (by omega))
 clear hf
 go_wp2_with fail
 refine HDN.out.mono ?_
 rintro e w3 ⟨b,rfl,hw3⟩
 have HT3 := hI' (H2.out.tn.trans hw3.tn)
 have HPOP := hI' (xXn gp g n c (wF (xAt h 0 n) n n 0) rest w3 hw3.cell (HF.out _ HT3.out) hw3.row hw3.len hc (by omega))
 rw [HLA.out] at HPOP
 have HSH := hI' hw3.row.short
 rw [← HPE.out] at HSH
 clear hw3 H2 HDN HF HLA HPE hl hN hc
 go_wp2_with fail
 rw [m_pop]
 go_wp2_with fail
 refine HPOP.out.mono ?_
 rintro e w4 ⟨rfl,rfl⟩
 go_wp2
 go_ret
 exact ⟨rfl,w3,_,rfl,HT3.out,HSH.out⟩
end Go.Proofs.AL
