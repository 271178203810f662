/- Contracts of functions of the program. Conditions: those that each theorem states. -/
import Derived.Test.YtnaiekglbemhcaaGreatDoorVaultFreshProofB15
set_option maxHeartbeats 8000000
set_option maxRecDepth 100000
namespace Mailsack
def xHd (m : Bs → Option Bs) (c : Ch) (n : Bs) : Option Bs := if n = c.name then (if c.gone = true then none else some c.data) else m n
def xOq (s : StS) (c : Ch) : List Wr :=
 if c.gone = true then [setW (wC s.slots c.name).toNat noSlot]
 else uE (yU c.data) ((s.free (yU c.data)).getD 0 0) c.data ++ [setW (qY s.slots c.name).toNat (zI c ((s.free (yU c.data)).getD 0 0))]
theorem xGu (s : StS) (c : Ch) : (jG s c).writes = s.writes ++ xOq s c := by
 unfold jG xOq
 split
 ·rfl
 ·simp [putAt,xEs]
theorem xDi {s : StS} {c : Ch} (h : jH s c = 0) : 1 ≤ c.name.length ∧ c.name.length ≤ 24 := by
 unfold jH at h
 by_cases h1 : c.name.length < 1 ∨ 24 < c.name.length
 ·rw [if_pos h1] at h; omega
 ·omega
theorem xLq {s : StS} {c : Ch} (h : jH s c = 0) (hg : c.gone = true) : ∃ (i : Nat) (t : Slot),wC s.slots c.name = i ∧ s.slots[i]? = some t ∧ t.used = true ∧ t.name = c.name ∧ i < s.slots.length := by
 unfold jH at h
 have h1 := xDi (s := s) (c := c) h
 rw [if_neg (by omega),if_pos hg] at h
 rcases jF s.slots c.name with ⟨h2,_⟩ | h2
 ·rw [h2,if_pos (by omega)] at h; omega
 ·exact h2
theorem xPw {s : StS} {c : Ch} (h : jH s c = 0) (hg : ¬ c.gone = true) : c.data.length ≤ 1024 ∧ 0 ≤ qY s.slots c.name ∧ (s.free (yU c.data)).length ≠ 0 := by
 unfold jH at h
 have h1 := xDi (s := s) (c := c) h
 rw [if_neg (by omega),if_neg hg] at h
 by_cases h2 : 1024 < c.data.length
 ·rw [if_pos h2] at h; omega
 ·rw [if_neg h2] at h
  by_cases h3 : qY s.slots c.name < 0
  ·rw [if_pos h3] at h; omega
  ·rw [if_neg h3] at h
   by_cases h4 : (s.free (yU c.data)).length = 0
   ·rw [if_pos h4] at h; omega
   ·exact ⟨by omega,by omega,h4⟩
theorem xG5 {l : List Slot} {n : Bs} (hu : xF9 l) (h : 0 ≤ qY l n) : ∃ i : Nat,qY l n = i ∧ i < l.length ∧ (∀ (j : Nat) u,j ≠ i → l[j]? = some u → u.used = true → u.name ≠ n) ∧ ∀ u,l[i]? = some u → u.used = true → u.name = n := by
 unfold qY at h ⊢
 rcases jF l n with ⟨h1,ha⟩ | ⟨i,t,h1,k1,k2,k3,k4⟩
 ·rw [if_pos (by omega)] at h ⊢
  rcases qE (fun t : Slot => !t.used) l with ⟨h2,_⟩ | ⟨i,t,h2,k1,k2,_⟩
  ·rw [h2] at h; omega
  ·refine ⟨i,h2,(List.getElem?_eq_some_iff.1 k1).1,fun j u _ hj hju => ha u (List.mem_of_getElem? hj) hju,fun u hu2 hus => ?_⟩
   rw [k1] at hu2
   injection hu2 with hu2
   subst hu2
   rw [hus] at k2
   cases k2
 ·rw [if_neg (by omega)]
  refine ⟨i,h1,k4,fun j u hne hj hju e => hne (hu j i u t hj k1 hju k2 (e.trans k3.symm)),fun u hu2 _ => ?_⟩
  rw [k1] at hu2
  injection hu2 with hu2
  subst hu2
  exact k3
theorem xY3 {s : StS} {S : List Bs} (h : Inv s S) {c : Ch} (he : jH s c = 0) : Inv (jG s c) (zJ S (xOq s c)) ∧ ∀ n,pG (jG s c).slots (zJ S (xOq s c)) n = xHd (pG s.slots S) c n := by
 obtain ⟨n1,n2⟩ := xDi he
 by_cases hg : c.gone = true
 ·obtain ⟨i,t,h1,h2,h3,h4,h5⟩ := xLq he hg
  have hi : i < 32 := by rw [h.slen] at h5; exact h5
  have e1 : jG s c = putAt s i noSlot := by unfold jG; rw [if_pos hg,h1]; rfl
  have e2 : xOq s c = [setW i noSlot] := by unfold xOq; rw [if_pos hg,h1]; rfl
  have e3 : zJ S (xOq s c) = vH S (setW i noSlot) := by rw [e2]; rfl
  have hv := xY6 h hi
  rw [e1,e3]
  refine ⟨hv,fun n => ?_⟩
  show pG (s.slots.set i noSlot) _ n = _
  unfold xHd
  by_cases hn : n = c.name
  ·rw [if_pos hn,if_pos hg,xB1]
   intro u hu hus e
   obtain ⟨j,hj⟩ := List.getElem?_of_mem hu
   rcases xAv hj with ⟨_,rfl⟩ | ⟨hne,hj⟩
   ·cases hus
   ·exact hne (h.uniq j i u t hj h2 hus h3 (e.trans (hn.trans h4.symm)))
  ·rw [if_neg hn]
   exact xI4 h.uniq hv.uniq (fun e => by cases e) (fun u hu hus e => by
    rw [h2] at hu
    injection hu with hu
    subst hu
    exact hn (e.symm.trans h4)) (fun j u _ _ _ => xFz hi _ _)
 ·obtain ⟨d1,d2,d3⟩ := xPw he hg
  obtain ⟨i,h1,h2,h3,h4⟩ := xG5 h.uniq d2
  have hi : i < 32 := by rw [h.slen] at h2; exact h2
  obtain ⟨r1,r2,r3⟩ := yBa h hi n1 n2 d1 d3 h3
  have e1 : jG s c = putAt { (vY s (yU c.data)) with writes := (vY s (yU c.data)).writes ++ uE (yU c.data) ((s.free (yU c.data)).getD 0 0) c.data } i (zI c ((s.free (yU c.data)).getD 0 0)) := by
   unfold jG
   rw [if_neg hg,h1]
   rfl
  have e2 : xOq s c = uE (yU c.data) ((s.free (yU c.data)).getD 0 0) c.data ++ [setW i (zI c ((s.free (yU c.data)).getD 0 0))] := by
   unfold xOq
   rw [if_neg hg,h1]
   rfl
  have e3 : zJ S (xOq s c) = vH (zJ S (uE (yU c.data) ((s.free (yU c.data)).getD 0 0) c.data)) (setW i (zI c ((s.free (yU c.data)).getD 0 0))) := by
   rw [e2,kY]
   rfl
  have e4 : (jG s c).slots = s.slots.set i (zI c ((s.free (yU c.data)).getD 0 0)) := by
   rw [e1]
   show (vY s _).slots.set i _ = _
   rw [tV]
  rw [e4,e3]
  rw [← e1] at r1
  refine ⟨r1,fun n => ?_⟩
  unfold xHd
  by_cases hn : n = c.name
  ·rw [if_pos hn,if_neg hg,hn]
   exact r3
  ·rw [if_neg hn]
   exact r2 n hn (fun u hu hus e => hn (e.symm.trans (h4 u hu hus)))
theorem xU6 {s : StS} {S : List Bs} (h : Inv s S) {c : Ch} (he : jH s c = 0) : ∀ x ∈ xOq s c,xCc 381 x = true := by
 have hset : ∀ (i : Nat) (t : Slot),i < 32 → (t.used = true → t.name.length ≤ 58) → xCc 381 (setW i t) = true := fun i t hi ht => by
  unfold xCc setW
  simp only [Bool.and_eq_true,decide_eq_true_eq]
  exact ⟨⟨by omega,by omega⟩,xPq ht⟩
 obtain ⟨n1,n2⟩ := xDi he
 intro x hx
 unfold xOq at hx
 by_cases hg : c.gone = true
 ·rw [if_pos hg] at hx
  obtain ⟨i,t,h1,h2,h3,h4,h5⟩ := xLq he hg
  rw [h1] at hx
  rw [List.mem_singleton.1 hx]
  exact hset _ _ (by rw [h.slen] at h5; simpa using h5) (fun e => by cases e)
 ·rw [if_neg hg] at hx
  obtain ⟨d1,d2,d3⟩ := xPw he hg
  obtain ⟨i,h1,h2,_,_⟩ := xG5 h.uniq d2
  rcases List.mem_append.1 hx with hx | hx
  ·obtain ⟨k,hk,rfl⟩ := xGi hx
   have hc := xPu c.data
   have hpp := xFf d3
   have hb := h.low _ hc _ (hpp.mem_iff.1 (List.mem_cons_self ..))
   have := xFn hb
   have h93 := xFp (yU c.data) ((s.free (yU c.data)).getD 0 0)
   have hcap := xLn d1
   unfold xCc
   simp only [Bool.and_eq_true,decide_eq_true_eq]
   refine ⟨⟨by omega,by omega⟩,?_⟩
   rw [List.length_take,List.length_drop,xJ7 hcap,xK1 hc]
   have := Nat.mul_le_mul_right 64 (show k + 1 ≤ countP (yU c.data) by omega)
   omega
  ·rw [List.mem_singleton.1 hx,h1]
   exact hset _ _ (by rw [h.slen] at h2; simpa using h2) (fun _ => by show c.name.length ≤ 58; omega)
def xR9 (m : Bs → Option Bs) (l : List Ch) : Bs → Option Bs := l.foldl xHd m
theorem xUv : ∀ (l : List Ch) (s : StS) (S : List Bs),Inv s S → (zS s l).2 = 0 → ∃ W,(zS s l).1.writes = s.writes ++ W ∧ Inv (zS s l).1 (zJ S W) ∧ (∀ n,pG (zS s l).1.slots (zJ S W) n = xR9 (pG s.slots S) l n) ∧ ∀ x ∈ W,xCc 381 x = true
 | [],s,S,h,_ => ⟨[],by simp [zS],h,fun _ => rfl,by simp⟩
 | c :: l,s,S,h,he => by
  unfold zS at he ⊢
  by_cases hc : jH s c = 0
  ·rw [if_pos hc] at he ⊢
   obtain ⟨h1,h2⟩ := xY3 h hc
   obtain ⟨W,w1,w2,w3,w4⟩ := xUv l (jG s c) _ h1 he
   refine ⟨xOq s c ++ W,by rw [w1,xGu,List.append_assoc],by rw [kY]; exact w2,fun n => ?_,fun x hx => ?_⟩
   ·rw [kY,w3 n]
    show List.foldl xHd _ l n = List.foldl xHd (xHd _ c) l n
    rw [show pG (jG s c).slots (zJ S (xOq s c)) = xHd (pG s.slots S) c from funext h2]
   ·rcases List.mem_append.1 hx with hx | hx
    ·exact xU6 h hc x hx
    ·exact w4 x hx
  ·rw [if_neg hc] at he
   exact absurd he hc
def qX (d : Dk) : List Slot := yG (xY d).secs
def xAa (d : Dk) (n : Bs) : Option Bs := pG (qX d) (xY d).secs n
structure Store (d : Dk) : Prop where
 cont : vV d = true
 uniq : xF9 (qX d)
theorem Store.right {d : Dk} (h : Store d) : d.secs.length = 381 ∧ zC d = true := by
 have := h.cont
 unfold vV at this
 simpa using this
theorem xEb {n : Nat} {tk : List Nat} : (xB4 n tk).Nodup ∧ ∀ b ∈ xB4 n tk,b < n ∧ b ∉ tk := by
 have hp := xE8 ((List.range n).filter fun i => !tk.contains i)
 refine ⟨hp.nodup_iff.2 (List.Pairwise.filter _ List.nodup_range),fun b hb => ?_⟩
 have := hp.mem_iff.1 hb
 simp at this
 exact this
theorem xT6 {l : List Slot} {t : Slot} (h : t ∈ l) (hu : t.used = true) : t.blk ∈ uD l t.cls := by
 unfold uD
 refine List.mem_map.2 ⟨t,List.mem_filter.2 ⟨h,by simp [hu]⟩,rfl⟩
theorem Store.inv {d : Dk} (h : Store d) : Inv (stS d) (xY d).secs := by
 obtain ⟨h1,h2⟩ := h.right
 have hf : ∀ c,c ≤ 1 → (stS d).free c = xB4 (uH c) (uD (qX d) c) := fun c hc => by
  rcases (show c = 0 ∨ c = 1 by omega) with rfl | rfl <;> rfl
 refine ⟨by rw [xBj h2,h1],rfl,fun t ht htu => ?_,fun c hc => ?_,fun c hc b hb => ?_,fun c hc b hb t ht htu htc e => ?_,h.uniq⟩
 ·have ht' : t ∈ yG (xY d).secs := ht
  unfold yG at ht'
  obtain ⟨s,_,rfl⟩ := List.mem_map.1 ht'
  rcases xGr s with e | ⟨_,e⟩
  ·rw [e] at htu; cases htu
  ·exact e
 ·rw [hf c hc]; exact xEb.1
 ·rw [hf c hc] at hb; exact (xEb.2 b hb).1
 ·rw [hf c hc] at hb
  refine (xEb.2 b hb).2 ?_
  have := xT6 ht htu
  rw [htc,e] at this
  exact this
theorem xWa {d : Dk} (h : Store d) {l : List Ch} (he : wQ d l = 0) : xDm d l = 0 ∧ Store (tZ d l) ∧ ∀ n,xAa (tZ d l) n = xR9 (xAa d) l n := by
 obtain ⟨h1,h2⟩ := h.right
 have he' := he
 unfold wQ at he
 rw [if_pos h.cont] at he
 have hc2 : (zS (stS d) l).2 = 0 := by
  by_cases hx : (zS (stS d) l).2 = 0
  ·exact hx
  ·rw [if_neg hx] at he; exact absurd he hx
 rw [if_pos hc2] at he
 have h30 : (zS (stS d) l).1.writes.length ≤ 30 := by
  by_cases hx : 30 < (zS (stS d) l).1.writes.length
  ·rw [if_pos hx] at he; omega
  ·omega
 obtain ⟨W,w1,w2,w3,w4⟩ := xUv l (stS d) _ h.inv hc2
 have hw : jK d l = W := by unfold jK; rw [if_pos he',w1]; rfl
 have hWl : W.length ≤ 30 := by rw [w1] at h30; simpa [stS] using h30
 unfold xDm tZ
 rw [if_pos he',if_pos he',hw]
 by_cases h0 : W.length = 0
 ·rw [if_pos h0,if_pos h0]
  have hW : W = [] := List.eq_nil_of_length_eq_zero h0
  subst hW
  have hff : xY (xY d) = xY d := xEd (by rw [rR h2])
  have hS : qX (xY d) = qX d := by unfold qX; rw [hff]
  have hsl : (zS (stS d) l).1.slots = qX d := by rw [← w2.slots]; rfl
  refine ⟨rfl,⟨?_,by rw [hS]; exact h.uniq⟩,fun n => ?_⟩
  ·unfold vV
   rw [xBj h2,h1,xA5 h2]
   rfl
  ·rw [← show pG (stS d).slots (xY d).secs = xAa d from rfl,← w3 n,hsl]
   unfold xAa
   rw [hff,hS]
   rfl
 ·rw [if_neg h0,if_neg h0]
  have hpe : vI d W = 0 := by
   unfold vI
   rw [if_neg,if_neg,if_neg (by omega)]
   ·rw [h1]
    simp only [Bool.not_eq_false]
    exact List.all_eq_true.2 w4
   ·unfold rM
    rw [h1,h2]
    simp
    exact fun e => h0 (by simp [e])
  obtain ⟨S',c1,c2,c3,c4,c5⟩ := xRt hpe
  rw [c1]
  have hfl : xY ⟨S',[]⟩ = ⟨S',[]⟩ := xEd rfl
  have hsl : qX ⟨S',[]⟩ = (zS (stS d) l).1.slots := by
   unfold qX
   rw [hfl,← w2.slots]
   exact xKm c5
  refine ⟨hpe,⟨?_,by rw [hsl]; exact w2.uniq⟩,fun n => ?_⟩
  ·unfold vV
   simp only
   rw [c3,h1,c2]
   rfl
  ·rw [← show pG (stS d).slots (xY d).secs = xAa d from rfl,← w3 n]
   unfold xAa
   rw [hsl,hfl]
   unfold pG
   split
   ·rfl
   ·congr 1
    refine xC7 (fun i hi _ => c5 i ?_)
    have := xFp (xCv (zS (stS d) l).1.slots (wC (zS (stS d) l).1.slots n)).cls (xCv (zS (stS d) l).1.slots (wC (zS (stS d) l).1.slots n)).blk
    omega
theorem xJt {d : Dk} (h : vV d = true) (n : Bs) : (xJu d n = 6 ∧ xAa d n = none ∧ xPb d n = []) ∨ (xJu d n = 0 ∧ xAa d n = some (xPb d n)) := by
 unfold xPb xJu xAa pG qX
 rw [if_pos h]
 by_cases hf : wC (yG (xY d).secs) n < 0
 ·left
  rw [if_pos hf,if_pos hf]
  exact ⟨rfl,rfl,rfl⟩
 ·right
  rw [if_neg hf,if_neg hf]
  exact ⟨rfl,rfl⟩
end Mailsack
namespace Mailsack
theorem yAw (z : Int) : oct (z % 256) = oct z := by
 unfold oct
 rw [Int.emod_emod_of_dvd z (by omega : (256 : Int) ∣ 256)]
end Mailsack
namespace Go.Proofs.ST
open Go.RowKit Mailsack MM BB SH SV RK DS
abbrev qI (t : Slot) : List Value := [.bool t.used,.int .i64 t.cls,.int .i64 t.blk,.int .i64 t.size,xU t.name]
theorem zO (t : Slot) : (qI t).length = 5 := rfl
theorem sloF_one (x : Slot) : ∀ u ∈ qI x,u.oneCell' = true := by
 intro u hu
 simp only [qI,List.mem_cons,List.not_mem_nil,or_false] at hu
 rcases hu with rfl | rfl | rfl | rfl | rfl <;> rfl
abbrev xGz (t : Slot) : Value := .agg #[.bool t.used,.int .i64 t.cls,.int .i64 t.blk,.int .i64 t.size,xU t.name]
abbrev wU (t : Slot) : Obj := .cells #[.bool t.used,.int .i64 t.cls,.int .i64 t.blk,.int .i64 t.size,xU t.name] 140
theorem yBc : (Tryz.prog.info? 140).map (fun i => (i.zero,i.size,i.bytes)) = some (some (.agg #[.bool false,.int .i64 0,.int .i64 0,.int .i64 0,.string ⟨#[]⟩]),5,48) := by kernel_rfl
theorem xVz (l : List Int) (hl : ∀ x ∈ l,0 ≤ x ∧ x < 256) (g : Nat) (W : World) (hb : W.heap[g]? = some (.cells (l.map (Value.int .u8)).toArray 5 (0,0))) : (convert 113 9 (.slice (some ⟨g,0,none⟩) l.length l.length)).run Tryz.prog W = .ok (.string (bsA (l.map oct))) W := by
 have := run_convert_bytes_back (P := Tryz.prog) W 113 9 5 ⟨g,0,none⟩ l.length (l.map oct) Tryz.underlying113 Tryz.underlying5 Tryz.underlying9 (fun j hj => by
  have hj2 : j < l.length := by simpa using hj
  have ha : (⟨g,0,none⟩ : Addr).add j = ⟨g,j,none⟩ := by unfold Addr.add; split <;> simp_all
  rw [ha,xA hb]
  have h1 := hl l[j] (List.getElem_mem hj2)
  have h2 := kT l[j]
  simp [hj2]
  omega)
 rw [List.length_map] at this
 exact this
theorem xBn (c : Nat) (w : World) : Calls Tryz.prog 44 #[.int .i64 c] w fun e w' => e = .returned (.int .i64 (uH c)) ∧ w' = w := by
 by_cases h : c = 0
 ·subst h
  go_enter Tryz.func44,Tryz.ntmps44
  go_wp2
  go_ret
  exact ⟨rfl,rfl⟩
 ·have h1 : ¬ ((c : Int) = 0) := by omega
  have h2 : ((c : Int) == 0) = false := by simpa using h1
  have H : Hid (uH c = 12) := hI' (by unfold uH; rw [if_neg h])
  clear h
  go_enter Tryz.func44,Tryz.ntmps44
  go_wp2
  go_ret
  exact ⟨by rw [H.out]; rfl,rfl⟩
theorem pW (c : Nat) (w : World) : Calls Tryz.prog 99 #[.int .i64 c] w fun e w' => e = .returned (.int .i64 (qA c)) ∧ w' = w := by
 by_cases h : c = 0
 ·subst h
  go_enter Tryz.func99,Tryz.ntmps99
  go_wp2
  go_ret
  exact ⟨rfl,rfl⟩
 ·have h1 : ¬ ((c : Int) = 0) := by omega
  have h2 : ((c : Int) == 0) = false := by simpa using h1
  have H : Hid (qA c = 1024) := hI' (by unfold qA; rw [if_neg h])
  clear h
  go_enter Tryz.func99,Tryz.ntmps99
  go_wp2
  go_ret
  exact ⟨by rw [H.out]; rfl,rfl⟩
theorem xG2 (c b : Nat) (w : World) (hb : b ≤ 10000) : Calls Tryz.prog 67 #[.int .i64 c,.int .i64 b] w fun e w' => e = .returned (.tuple #[.int .i64 (uF c b),.int .i64 (countP c)]) ∧ w' = w := by
 by_cases h : c = 0
 ·subst h
  have H : Hid ((uF 0 b : Nat) = (93 : Int) + b * 4 ∧ countP 0 = 4) := hI' ⟨by unfold uF; rw [if_pos rfl]; omega,rfl⟩
  go_enter Tryz.func67,Tryz.ntmps67
  go_wp2
  go_ret2
  exact ⟨by rw [H.out.1,H.out.2]; rfl,rfl⟩
 ·have h1 : ¬ ((c : Int) = 0) := by omega
  have h2 : ((c : Int) == 0) = false := by simpa using h1
  have H : Hid ((uF c b : Nat) = (189 : Int) + b * 16 ∧ countP c = 16) := hI' ⟨by unfold uF; rw [if_neg h]; omega,by unfold countP; rw [if_neg h]⟩
  clear h
  go_enter Tryz.func67,Tryz.ntmps67
  go_wp2
  go_ret2
  exact ⟨by rw [H.out.1,H.out.2]; rfl,rfl⟩
theorem xIb (t : Slot) (w : World) (hc : t.cls ≤ 255) (hb : t.blk ≤ 255) (hs : t.size ≤ 65535) (hn : t.name.length ≤ 255) : Calls Tryz.prog 151 #[xGz t] w fun e w' => e = .returned (xU (kI t)) ∧ Below w.heap.size w w' := by
 obtain ⟨u,c,b,s,n⟩ := t
 simp only at hc hb hs hn
 have HB0 := hI' ((Below.refl w.heap.size w).alloc (Nat.le_refl _) (wU ⟨u,c,b,s,n⟩))
 have hbk := xM w (wU ⟨u,c,b,s,n⟩)
 obtain ⟨x0,x1,x2,x3,x4⟩ := xSf hbk
 cases u with
 | false =>
  have HP := hI' (fun W => xN0 ⟨#[]⟩ 64 W (by omega) (by show 0 ≤ _; omega))
  clear hbk
  have HE : Hid (kI ⟨false,c,b,s,n⟩ = xJ8 (⟨#[]⟩ : ByteArray).data.toList 64) := hI' rfl
  obtain ⟨ev,hev⟩ : ∃ ev,kI ⟨false,c,b,s,n⟩ = ev := ⟨_,rfl⟩
  rw [hev] at HE ⊢
  rw [← HE.out] at HP
  clear hev HE
  go_enter Tryz.func151,Tryz.ntmps151
  go_wp2_with fail
  refine (HP.out _).mono ?_
  rintro e w1 ⟨rfl,hb1⟩
  have HB := hI' (HB0.out.trans (hb1.mono HB0.out.size))
  clear hb1 HB0 HP
  go_wp2
  go_ret
  exact ⟨rfl,HB.out⟩
 | true =>
  have m1 : (c : Int) % 256 = c := by omega
  have m2 : (b : Int) % 256 = b := by omega
  have m5 : (n.length : Int) % 256 = n.length := by omega
  clear hbk
  obtain ⟨ev,hev⟩ : ∃ ev,kI ⟨true,c,b,s,n⟩ = ev := ⟨_,rfl⟩
  rw [hev]
  have HEV := hI' hev
  clear hev
  go_enter Tryz.func151,Tryz.ntmps151
  go_upto_region 4 with fail
  have HCV := hI' (xVz [1,(c : Int),(b : Int),(s : Int) % 256,(s : Int) / 256,(n.length : Int)] (by
   intro x hx
   simp only [List.mem_cons,List.not_mem_nil,or_false] at hx
   rcases hx with rfl | rfl | rfl | rfl | rfl | rfl <;> omega) (w.heap.size + 1) ((w.alloc (wU ⟨true,c,b,s,n⟩)).alloc (.cells #[.int .u8 1,.int .u8 c,.int .u8 b,.int .u8 ((s : Int) % 256),.int .u8 ((s : Int) / 256),.int .u8 (n.length : Int)] 5)) (zM _ _ _))
  obtain ⟨h6,hh6⟩ : ∃ h6,bsA ([1,(c : Int),(b : Int),(s : Int) % 256,(s : Int) / 256,(n.length : Int)].map oct) = h6 := ⟨_,rfl⟩
  have hsz : h6.size = 6 := by rw [← hh6,yO]; rfl
  rw [hh6] at HCV
  have HBB := hI' (HB0.out.alloc HB0.out.size (.cells #[.int .u8 1,.int .u8 c,.int .u8 b,.int .u8 ((s : Int) % 256),.int .u8 ((s : Int) / 256),.int .u8 (n.length : Int)] 5))
  have hb4 := xP (xM w (wU ⟨true,c,b,s,n⟩)) (.cells #[.int .u8 1,.int .u8 c,.int .u8 b,.int .u8 ((s : Int) % 256),.int .u8 ((s : Int) / 256),.int .u8 (n.length : Int)] 5)
  have y4 := xA hb4 4
  simp only [gA,gB,gC] at y4
  obtain ⟨nb,hnb⟩ : ∃ nb : ByteArray,(⟨n.toArray⟩ : ByteArray) = nb := ⟨_,rfl⟩
  have hns : nb.size = n.length := by rw [← hnb]; rfl
  have HP := hI' (fun W => xN0 (h6 ++ nb) 64 W (by omega) (by rw [ByteArray.size_append]; omega))
  have HE : Hid (xJ8 (h6 ++ nb).data.toList 64 = ev) := hI' (by
   rw [← HEV.out,← hh6,← hnb]
   unfold kI
   rw [if_pos rfl]
   congr 1
   unfold xQp
   rw [ByteArray.data_append]
   simp [bsA,yAw]
   rfl)
  rw [HE.out] at HP
  have nb1 : ¬ (9223372036854775807 < h6.size + nb.size) := by omega
  rw [show xU n = .string nb from by rw [← hnb]] at y4
  have hcv := HCV.out
  clear hh6 HEV HB0 x0 x1 x2 x3 x4 hb4 hns HCV m1 m2 m5 hc hb hs hn HE
  simp only [List.length_cons,List.length_nil,Nat.zero_add,Nat.reduceAdd] at hcv
  generalize (w.alloc (wU ⟨true,c,b,s,n⟩)).alloc (.cells #[.int .u8 1,.int .u8 c,.int .u8 b,.int .u8 ((s : Int) % 256),.int .u8 ((s : Int) / 256),.int .u8 (n.length : Int)] 5) = w2 at hcv y4 HBB ⊢
  go_wp2_with fail
  refine (HP.out _).mono ?_
  rintro e w1 ⟨rfl,hb1⟩
  have HB := hI' (HBB.out.trans (hb1.mono HBB.out.size))
  clear hb1 HBB HP hcv y4
  go_wp2
  go_ret
  exact ⟨rfl,HB.out⟩
end Go.Proofs.ST
