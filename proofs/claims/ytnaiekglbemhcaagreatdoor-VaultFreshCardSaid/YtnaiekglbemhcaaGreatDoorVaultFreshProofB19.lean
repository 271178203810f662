/- Contracts of functions of the program. Conditions: those that each theorem states. -/
import Derived.Test.YtnaiekglbemhcaaGreatDoorVaultFreshProofB18
import Derived.Test.YtnaiekglbemhcaaGreatDoorProg
import Derived.Test.YtnaiekglbemhcaaGreatDoorVaultFreshProofB01
import Derived.WalkKit
import Derived.WalkLawsBesides
import Derived.WalkSpells
import Derived.Lib.Hide
import Derived.Deep.Cut
import Derived.Deep.RegionWith
import Derived.BigGuard
import Derived.Test.YtnaiekglbemhcaaGreatDoorVaultFreshProofB00
import Derived.Test.YtnaiekglbemhcaaGreatDoorVaultFreshProofB13
import Derived.Deep.AppendLies
set_option maxHeartbeats 8000000
set_option maxRecDepth 100000
namespace Mailsack
def xOj (n : Int) : Bool := decide (1 ≤ n ∧ n ≤ 4294967295)
def xDa (n : Int) : Bool := decide (0 ≤ n ∧ n ≤ 63)
def xE6 (o s f : Int) : Bool := xOj o && decide (0 ≤ s ∧ s ≤ 700) && xDa f
def chN (c : Nat) : Bool := decide (97 ≤ c ∧ c ≤ 122 ∨ 65 ≤ c ∧ c ≤ 90 ∨ 48 ≤ c ∧ c ≤ 57 ∨ c = 45 ∨ c = 47 ∨ c = 95)
def chP (c : UInt8) : Bool := chN c.toNat
def nameP (s : Bs) : Bool := decide (1 ≤ s.length ∧ s.length ≤ 16) && s.all chP
theorem xYw {s : ByteArray} {k : Nat} (h : k < s.size) (f : UInt8 → Bool) : (s.data.toList.drop k).all f = (f s[k] && (s.data.toList.drop (k + 1)).all f) := by
 have h' : k < s.data.toList.length := by rw [Array.length_toList]; exact h
 rw [List.drop_eq_getElem_cons h',List.all_cons]
 rfl
def xAm : Bs := [73,78,66,79,88]
def xEw (next : Int) : List wN → Int → Bool
 | [],_ => true
 | m :: l,last => decide (last < m.uid) && decide (m.uid < next) && xE6 m.object m.size m.flags && xEw next l m.uid
def xAn (b : xGy) : Bool := nameP b.name && xOj b.validity && xOj b.next && decide (b.zA.length ≤ 30) && xEw b.next b.zA 0
def leS (a b : Bs) : Bool := Go.Op.bytesLess a b || a == b
def rW (given : Int) : List xGy → Nat → Bs → Bool
 | [],_,_ => true
 | b :: l,i,p => xAn b && decide (b.validity < given) && !(decide (0 < i) && b.name == xAm) && !(decide (1 < i) && leS b.name p) && rW given l (i + 1) b.name
def xCu : List Bs → Nat → Bs → Bool
 | [],_,_ => true
 | s :: l,i,p => nameP s && !(decide (0 < i) && leS s p) && xCu l (i + 1) s
def xEr (l : List xGy) : Nat := (l.map (·.zA.length)).sum
def wY (x : jU) : Bool :=
 decide (1 ≤ x.boxes.length) && decide (x.boxes.length ≤ 6) && (x.boxes.head?.map (·.name) == some xAm) && decide (x.subs.length ≤ 6) && xOj x.given && rW x.given x.boxes 0 [] && xCu x.subs 0 [] && decide (xEr x.boxes ≤ 30)
end Mailsack
namespace Go.Proofs.IX
open Go.RowKit Mailsack MM
theorem pO (n : Int) (w : World) : Calls Tryz.prog 112 #[.int .i64 n] w fun e w' => e = .returned (.bool (xOj n)) ∧ w' = w := by
 unfold xOj
 by_cases h1 : 1 ≤ n
 ·by_cases h2 : n ≤ 4294967295
  all_goals
   go_enter Tryz.func112,Tryz.ntmps112
   go_wp2
   go_ret
   exact ⟨by simp [h1,h2],rfl⟩
 ·go_enter Tryz.func112,Tryz.ntmps112
  go_wp2
  go_ret
  exact ⟨by simp; omega,rfl⟩
theorem xHa (n : Int) (w : World) : Calls Tryz.prog 170 #[.int .i64 n] w fun e w' => e = .returned (.bool (xDa n)) ∧ w' = w := by
 unfold xDa
 by_cases h1 : 0 ≤ n
 ·by_cases h2 : n ≤ 63
  all_goals
   go_enter Tryz.func170,Tryz.ntmps170
   go_wp2
   go_ret
   exact ⟨by simp [h1,h2],rfl⟩
 ·go_enter Tryz.func170,Tryz.ntmps170
  go_wp2
  go_ret
  exact ⟨by simp; omega,rfl⟩
theorem xJ3 (o s f : Int) (w : World) : Calls Tryz.prog 125 #[.int .i64 o,.int .i64 s,.int .i64 f] w fun e w' => e = .returned (.bool (xE6 o s f)) ∧ w' = w := by
 have HR : Hid (xE6 o s f = (xOj o && decide (0 ≤ s ∧ s ≤ 700) && xDa f)) := hI' rfl
 generalize xE6 o s f = R at HR ⊢
 have HP := hI' (fun W => pO o W)
 have HF := hI' (fun W => xHa f W)
 cases hp : xOj o with
 | false =>
  rw [hp] at HP HR
  clear hp
  go_enter Tryz.func125,Tryz.ntmps125
  go_wp2_with (go_at_call 112; refine (HP.out _).mono ?_; rintro e w' ⟨rfl,rfl⟩)
  go_ret
  exact ⟨by rw [HR.out]; simp,rfl⟩
 | true =>
  rw [hp] at HP HR
  clear hp
  generalize xDa f = b at HF HR
  by_cases h1 : 0 ≤ s
  ·by_cases h2 : s ≤ 700
   ·have Hf : Hid (R = b) := hI' (by rw [HR.out]; simp [h1,h2])
    go_enter Tryz.func125,Tryz.ntmps125
    go_wp2_with (first | (go_at_call 112; refine (HP.out _).mono ?_; rintro e w' ⟨rfl,rfl⟩) | (go_at_call 170; refine (HF.out _).mono ?_; rintro e w' ⟨rfl,rfl⟩))
    go_ret
    exact ⟨by rw [Hf.out]; rfl,rfl⟩
   ·have Hf : Hid (R = false) := hI' (by rw [HR.out]; simp [h1,h2])
    go_enter Tryz.func125,Tryz.ntmps125
    go_wp2_with (go_at_call 112; refine (HP.out _).mono ?_; rintro e w' ⟨rfl,rfl⟩)
    go_ret
    exact ⟨by rw [Hf.out]; rfl,rfl⟩
  ·have Hf : Hid (R = false) := hI' (by rw [HR.out]; simp [h1])
   go_enter Tryz.func125,Tryz.ntmps125
   go_wp2_with (go_at_call 112; refine (HP.out _).mono ?_; rintro e w' ⟨rfl,rfl⟩)
   go_ret
   exact ⟨by rw [Hf.out]; rfl,rfl⟩
theorem xD1 (s : ByteArray) (w : World) : Calls Tryz.prog 114 #[.string s] w fun e w' => e = .returned (.bool (nameP s.data.toList)) ∧ w' = w := by
 have hsl : s.data.toList.length = s.size := Array.length_toList
 by_cases h1 : 1 ≤ s.size
 ·by_cases h2 : s.size ≤ 16
  ·have hdone : Hid (nameP s.data.toList = (s.data.toList.drop 0).all chP) := hI' (by unfold nameP; simp [hsl,h1,h2])
   have Hsl := hI' hsl
   clear hsl
   go_enter Tryz.func114,Tryz.ntmps114
   go_wp2
   go_loop [17] (fun iv => ∃ k : Nat,k ≤ s.size ∧ iv = .int .i64 k ∧ Hid (nameP s.data.toList = (s.data.toList.drop k).all chP)) (fun iv => s.size - (intOf iv).toNat)
   case atStart => exact ⟨0,by omega,rfl,hdone⟩
   case round =>
    obtain ⟨k,hk,rfl,hr⟩ := hrel
    clear hdone
    by_cases hlt : k < s.size
    ·have HS : Hid ((s.data.toList.drop k).all chP = (chN s[k].toNat && (s.data.toList.drop (k + 1)).all chP)) := hI' (xYw hlt chP)
     by_cases e95 : (s[k].toNat : Int) = 95
     all_goals
      go_wp2
      all_goals first
       | (go_ret; exact ⟨by rw [hr.out,HS.out,show chN s[k].toNat = false from decide_eq_false (by first | omega | (simp at *; omega))]; rfl,rfl⟩)
       | exact ⟨⟨k + 1,by omega,by go_num,hI' (by rw [hr.out,HS.out,show chN s[k].toNat = true from decide_eq_true (by first | omega | (simp at *; omega)),Bool.true_and])⟩,by simp [intOf]; omega⟩
    ·go_wp2
     go_ret
     refine ⟨?_,rfl⟩
     rw [hr.out,List.drop_eq_nil_iff.2 (by have := Hsl.out; omega)]
     rfl
  ·have Hf := hI' (show nameP s.data.toList = false by unfold nameP; simp [hsl,h2])
   clear hsl
   go_enter Tryz.func114,Tryz.ntmps114
   go_wp2
   go_ret
   exact ⟨by rw [Hf.out]; rfl,rfl⟩
 ·have Hf := hI' (show nameP s.data.toList = false by unfold nameP; rw [decide_eq_false (by omega)]; rfl)
  clear hsl
  go_enter Tryz.func114,Tryz.ntmps114
  go_wp2
  go_ret
  exact ⟨by rw [Hf.out]; rfl,rfl⟩
end Go.Proofs.IX
namespace Go.Proofs.IX
open Go.RowKit Mailsack MM
theorem xN6 {L : List wN} {k : Nat} {m : wN} (h : L[k]? = some m) (next last : Int) : xEw next (L.drop k) last = (decide (last < m.uid) && decide (m.uid < next) && xE6 m.object m.size m.flags && xEw next (L.drop (k + 1)) m.uid) := by
 have hk : k < L.length := (List.getElem?_eq_some_iff.1 h).1
 rw [List.drop_eq_getElem_cons hk]
 have : L[k] = m := (List.getElem?_eq_some_iff.1 h).2
 rw [this]
 rfl
theorem xLt {B : Nat} {a w : World} (h : Below B a w) (hB : B ≤ a.heap.size) (o : Obj) : Below B a (w.alloc o) := h.alloc (Nat.le_trans hB h.size) o
theorem xKu (b : xGy) (mv : Value) (w : World) (hm : kZ w w.heap.size mv b.zA) (hl : b.zA.length ≤ 9223372036854775807) :
  Calls Tryz.prog 113 #[.agg #[xU b.name,.int .i64 b.validity,.int .i64 b.next,mv]] w fun e w' => e = .returned (.bool (xAn b)) ∧ Below w.heap.size w w' := by
 obtain ⟨A,c,rfl,hc,hrd⟩ := hm
 have HN := hI' (fun W => xD1 ⟨b.name.toArray⟩ W)
 have HV := hI' (fun W => pO b.validity W)
 have HX := hI' (fun W => pO b.next W)
 rw [show (⟨b.name.toArray⟩ : ByteArray).data.toList = b.name from rfl] at HN
 have HR : Hid (xAn b = (nameP b.name && xOj b.validity && xOj b.next && decide (b.zA.length ≤ 30) && xEw b.next (b.zA.drop 0) 0)) := hI' rfl
 generalize xAn b = R at HR ⊢
 generalize nameP b.name = r1 at HN HR
 generalize xOj b.validity = r2 at HV HR
 generalize xOj b.next = r3 at HX HR
 have H1 := hI' ((Below.refl w.heap.size w).alloc (Nat.le_refl _) (.cells #[xU b.name,.int .i64 b.validity,.int .i64 b.next,.slice A b.zA.length c] 47))
 have P1 := hI' (xM w (.cells #[xU b.name,.int .i64 b.validity,.int .i64 b.next,.slice A b.zA.length c] 47))
 have Hrd := hI' hrd
 clear hrd
 by_cases hok : (r1 = true ∧ r2 = true ∧ r3 = true) ∧ b.zA.length ≤ 30
 ·obtain ⟨⟨rfl,rfl,rfl⟩,h30⟩ := hok
  replace HR : Hid (R = xEw b.next (b.zA.drop 0) 0) := hI' (by rw [HR.out]; simp [h30])
  go_enter Tryz.func113,Tryz.ntmps113
  go_wp2_with (first | (go_at_call 114; refine (HN.out _).mono ?_; rintro e w' ⟨rfl,rfl⟩) | (go_at_call_of 112 (Value.int IntKind.i64 b.validity); refine (HV.out _).mono ?_; rintro e w' ⟨rfl,rfl⟩) | (go_at_call_of 112 (Value.int IntKind.i64 b.next); refine (HX.out _).mono ?_; rintro e w' ⟨rfl,rfl⟩))
  go_loopw [3,31] (fun lv iv wr => ∃ (k : Nat) (last : Int),k ≤ b.zA.length ∧ lv = .int .i64 last ∧ iv = .int .i64 k ∧ Hid (R = xEw b.next (b.zA.drop k) last) ∧ Hid (Below (w.alloc (.cells #[xU b.name,.int .i64 b.validity,.int .i64 b.next,.slice A b.zA.length c] 47)).heap.size (w.alloc (.cells #[xU b.name,.int .i64 b.validity,.int .i64 b.next,.slice A b.zA.length c] 47)) wr)) (fun _ iv _ => b.zA.length - (intOf iv).toNat)
  case atStart => exact ⟨0,0,Nat.zero_le _,rfl,rfl,HR,hI' (Below.refl _ _)⟩
  case round =>
   obtain ⟨k,last,hk,rfl,rfl,hR,hb⟩ := hrel
   clear HR
   by_cases hlt : k < b.zA.length
   ·obtain ⟨g,off,rfl,hg,hcell⟩ := Hrd.out (by omega)
    obtain ⟨m,hm⟩ : ∃ m,b.zA[k]? = some m := ⟨_,List.getElem?_eq_getElem hlt⟩
    obtain ⟨q1,q2,q3,q4⟩ := hcell k m hm
    have kp : ∀ p : Addr,p.block < w.heap.size → wr.cell? p = w.cell? p := fun p hp => (hb.out.cell (by simp; omega)).trans (H1.out.cell hp)
    have c1 := (kp ⟨g,off + k * 4,none⟩ hg).trans q1
    have c2 := (kp ⟨g,off + k * 4 + 1,none⟩ hg).trans q2
    have c3 := (kp ⟨g,off + k * 4 + 2,none⟩ hg).trans q3
    have c4 := (kp ⟨g,off + k * 4 + 3,none⟩ hg).trans q4
    have c5 : wr.cell? ⟨w.heap.size,2,none⟩ = some (.int .i64 b.next) := xA (xE P1.out hb.out (by simp)) 2
    have c6 : (wr.alloc (.cells #[.int .i64 m.uid,.int .i64 m.flags,.int .i64 m.object,.int .i64 m.size] 65)).cell? ⟨w.heap.size,2,none⟩ = some (.int .i64 b.next) := xA (xP (xE P1.out hb.out (by simp)) _) 2
    have hsz : w.heap.size + 1 ≤ wr.heap.size := by have := hb.out.size; simpa using this
    have HS := hI' (hR.out.trans (xN6 hm b.next last))
    have HM := hI' (fun W => xJ3 m.object m.size m.flags W)
    generalize xE6 m.object m.size m.flags = r at HM HS
    clear q1 q2 q3 q4 kp hcell hm hR
    have HB9 := hI' (xLt hb.out (Nat.le_refl _) (.cells #[.int .i64 m.uid,.int .i64 m.flags,.int .i64 m.object,.int .i64 m.size] 65))
    by_cases u1 : last < m.uid
    ·by_cases u2 : m.uid < b.next
     ·cases r with
      | true =>
       have HT : Hid (R = xEw b.next (b.zA.drop (k + 1)) m.uid) := hI' (by rw [HS.out]; simp [u1,u2])
       go_wp2_with (go_at_call 125; refine (HM.out _).mono ?_; rintro e w' ⟨rfl,rfl⟩)
       exact ⟨⟨k + 1,m.uid,by omega,rfl,by go_num,HT,HB9⟩,by simp [intOf]; omega⟩
      | false =>
       have HF : Hid (R = false) := hI' (by rw [HS.out]; simp)
       go_wp2_with (go_at_call 125; refine (HM.out _).mono ?_; rintro e w' ⟨rfl,rfl⟩)
       go_ret
       exact ⟨by rw [HF.out]; rfl,H1.out.trans (HB9.out.mono H1.out.size)⟩
     ·have HF : Hid (R = false) := hI' (by rw [HS.out]; simp [u2])
      go_wp2
      go_ret
      exact ⟨by rw [HF.out]; rfl,H1.out.trans (HB9.out.mono H1.out.size)⟩
    ·have HF : Hid (R = false) := hI' (by rw [HS.out]; simp [u1])
     go_wp2
     go_ret
     exact ⟨by rw [HF.out]; rfl,H1.out.trans (HB9.out.mono H1.out.size)⟩
   ·go_wp2
    go_ret
    refine ⟨?_,H1.out.trans (hb.out.mono H1.out.size)⟩
    rw [hR.out,List.drop_eq_nil_iff.2 (by omega)]
    rfl
 ·have HF : Hid (R = false) := hI' (by
   rw [HR.out]
   rcases Nat.lt_or_ge 30 b.zA.length with h30 | h30
   ·rw [decide_eq_false (by omega)]; simp
   ·cases r1 <;> cases r2 <;> cases r3 <;> simp_all)
  have key : r1 = false ∨ (r1 = true ∧ r2 = false) ∨ (r1 = true ∧ r2 = true ∧ r3 = false) ∨ (r1 = true ∧ r2 = true ∧ r3 = true ∧ 30 < b.zA.length) := by
   cases r1 <;> cases r2 <;> cases r3 <;> simp_all
  clear hok HR
  rcases key with rfl | ⟨rfl,rfl⟩ | ⟨rfl,rfl,rfl⟩ | ⟨rfl,rfl,rfl,h30⟩
  all_goals
   go_enter Tryz.func113,Tryz.ntmps113
   go_wp2_with (first | (go_at_call 114; refine (HN.out _).mono ?_; rintro e w' ⟨rfl,rfl⟩) | (go_at_call_of 112 (Value.int IntKind.i64 b.validity); refine (HV.out _).mono ?_; rintro e w' ⟨rfl,rfl⟩) | (go_at_call_of 112 (Value.int IntKind.i64 b.next); refine (HX.out _).mono ?_; rintro e w' ⟨rfl,rfl⟩))
   go_ret
   exact ⟨by rw [HF.out]; rfl,H1.out⟩
end Go.Proofs.IX
namespace Mailsack
theorem xO1 {L : List xGy} {k : Nat} {b : xGy} (h : L[k]? = some b) (given : Int) (p : Bs) : rW given (L.drop k) k p = (xAn b && decide (b.validity < given) && !(decide (0 < k) && b.name == xAm) && !(decide (1 < k) && leS b.name p) && rW given (L.drop (k + 1)) (k + 1) b.name) := by
 have hk : k < L.length := (List.getElem?_eq_some_iff.1 h).1
 rw [List.drop_eq_getElem_cons hk]
 have : L[k] = b := (List.getElem?_eq_some_iff.1 h).2
 rw [this]
 rfl
theorem xQn {L : List Bs} {k : Nat} {s : Bs} (h : L[k]? = some s) (p : Bs) : xCu (L.drop k) k p = (nameP s && !(decide (0 < k) && leS s p) && xCu (L.drop (k + 1)) (k + 1) s) := by
 have hk : k < L.length := (List.getElem?_eq_some_iff.1 h).1
 rw [List.drop_eq_getElem_cons hk]
 have : L[k] = s := (List.getElem?_eq_some_iff.1 h).2
 rw [this]
 rfl
theorem xMg {L : List xGy} {k : Nat} {b : xGy} (h : L[k]? = some b) : xEr (L.take (k + 1)) = xEr (L.take k) + b.zA.length := by
 unfold xEr
 rw [List.take_add_one,h]
 simp
end Mailsack
namespace Go.Proofs.IX
open Go.RowKit Mailsack MM
theorem xFq {w : World} {B : Nat} {v : Value} {L : List xGy} (h : qW w B v L) {k : Nat} {x : xGy} (hx : L[k]? = some x) : ∃ b off c mv,v = .slice (some ⟨b,off,none⟩) L.length c ∧ b < B ∧ w.cell? ⟨b,off + k * 4,none⟩ = some (xU x.name) ∧ w.cell? ⟨b,off + k * 4 + 1,none⟩ = some (.int .i64 x.validity) ∧
  w.cell? ⟨b,off + k * 4 + 2,none⟩ = some (.int .i64 x.next) ∧ w.cell? ⟨b,off + k * 4 + 3,none⟩ = some mv ∧ kZ w B mv x.zA := by
 obtain ⟨A,c,rfl,_,hr⟩ := h
 obtain ⟨b,off,rfl,hb,hc⟩ := hr (by have := (List.getElem?_eq_some_iff.1 hx).1; omega)
 obtain ⟨mv,h1,h2,h3,h4,h5⟩ := hc k x hx
 exact ⟨b,off,c,mv,rfl,hb,h1,h2,h3,h4,h5⟩
theorem wV (bv sv : Value) (x : jU) (w : World) (h : xQ6 w w.heap.size bv sv x) (hm : ∀ b ∈ x.boxes,b.zA.length ≤ 9223372036854775807) (hl : x.boxes.length ≤ 9223372036854775807) (hl2 : x.subs.length ≤ 9223372036854775807) :
  Calls Tryz.prog 70 #[.agg #[bv,sv,.int .i64 x.given]] w fun e w' => e = .returned (.bool (wY x)) ∧ Below w.heap.size w w' := by
 have HB := hI' h.boxes
 have HS := hI' h.subs
 have HM := hI' hm
 obtain ⟨A,c,rfl,hc,_⟩ := h.boxes
 obtain ⟨A2,c2,rfl,hc2,_⟩ := h.subs
 have HR : Hid (wY x = (decide (1 ≤ x.boxes.length) && decide (x.boxes.length ≤ 6) && (x.boxes.head?.map (·.name) == some xAm) && decide (x.subs.length ≤ 6) && xOj x.given && rW x.given x.boxes 0 [] && xCu x.subs 0 [] && decide (xEr x.boxes ≤ 30))) := hI' rfl
 generalize wY x = R at HR ⊢
 have H1 := hI' ((Below.refl w.heap.size w).alloc (Nat.le_refl _) (.cells #[.slice A x.boxes.length c,.slice A2 x.subs.length c2,.int .i64 x.given] 40))
 have P1 := hI' (xM w (.cells #[.slice A x.boxes.length c,.slice A2 x.subs.length c2,.int .i64 x.given] 40))
 have HG := hI' (fun W => pO x.given W)
 clear h hm
 by_cases h1 : 1 ≤ x.boxes.length ∧ x.boxes.length ≤ 6
 ·obtain ⟨b0,hb0⟩ : ∃ b0,x.boxes[0]? = some b0 := ⟨_,List.getElem?_eq_getElem h1.1⟩
  obtain ⟨g,off,c',mv0,e0,hg,q0,_⟩ := xFq HB.out hb0
  injection e0 with e0 _ e0'
  subst e0 e0'
  have q0' : w.cell? ⟨g,off,none⟩ = some (xU b0.name) := by simpa using q0
  obtain ⟨nb,hnb⟩ : ∃ nb : ByteArray,(⟨b0.name.toArray⟩ : ByteArray) = nb := ⟨_,rfl⟩
  have q1 : (w.alloc (.cells #[.slice (some ⟨g,off,none⟩) x.boxes.length c,.slice A2 x.subs.length c2,.int .i64 x.given] 40)).cell? ⟨g,off,none⟩ = some (.string nb) := by rw [← hnb]; exact (H1.out.cell hg).trans q0'
  have hin : (nb.toList == [73,78,66,79,88]) = (b0.name == xAm) := by rw [← hnb,ByteArray.toList_eq]; rfl
  have hhead : (x.boxes.head?.map (·.name) == some xAm) = (b0.name == xAm) := by
   rw [List.head?_eq_getElem?,hb0]
   simp
  rw [hhead] at HR
  obtain ⟨h1a,h1b⟩ := h1
  rw [decide_eq_true h1a,decide_eq_true h1b] at HR
  generalize (b0.name == xAm) = r1 at hin HR
  clear hhead q0 q0' hnb hb0
  cases r1 with
  | false =>
   have HF : Hid (R = false) := hI' (by rw [HR.out]; simp)
   go_enter Tryz.func70,Tryz.ntmps70
   go_wp2
   go_ret
   exact ⟨by rw [HF.out]; rfl,H1.out⟩
  | true =>
   by_cases h2 : x.subs.length ≤ 6
   ·rw [decide_eq_true h2] at HR
    generalize xOj x.given = r2 at HG HR
    cases r2 with
    | false =>
     have HF : Hid (R = false) := hI' (by rw [HR.out]; simp)
     go_enter Tryz.func70,Tryz.ntmps70
     go_wp2_with (go_at_call 112; refine (HG.out _).mono ?_; rintro e w' ⟨rfl,rfl⟩)
     go_ret
     exact ⟨by rw [HF.out]; rfl,H1.out⟩
    | true =>
     replace HR : Hid (R = (rW x.given (x.boxes.drop 0) 0 [] && (xCu x.subs 0 [] && decide (xEr x.boxes ≤ 30)))) := hI' (by rw [HR.out]; simp [Bool.and_assoc])
     go_enter Tryz.func70,Tryz.ntmps70
     go_wp2_with (go_at_call 112; refine (HG.out _).mono ?_; rintro e w' ⟨rfl,rfl⟩)
     clear hin q1
     generalize hrest : (xCu x.subs 0 [] && decide (xEr x.boxes ≤ 30)) = Q at HR
     have HQ := hI' hrest
     clear hrest
     go_loopw [3,39] (fun tv iv wr => ∃ (k tot : Nat) (p : Bs),k ≤ x.boxes.length ∧ tot ≤ 30 * k ∧ tv = .int .i64 tot ∧ iv = .int .i64 k ∧ Hid (R = (rW x.given (x.boxes.drop k) k p && Q) ∧ tot = xEr (x.boxes.take k) ∧ (∀ j,k = j + 1 → ∃ b,x.boxes[j]? = some b ∧ b.name = p) ∧ Below (w.alloc (.cells #[.slice (some ⟨g,off,none⟩) x.boxes.length c,.slice A2 x.subs.length c2,.int .i64 x.given] 40)).heap.size (w.alloc (.cells #[.slice (some ⟨g,off,none⟩) x.boxes.length c,.slice A2 x.subs.length c2,.int .i64 x.given] 40)) wr)) (fun _ iv _ => x.boxes.length - (intOf iv).toNat)
     case atStart => exact ⟨0,0,[],Nat.zero_le _,by decide,rfl,rfl,hI' ⟨HR.out,rfl,fun j hj => by omega,Below.refl _ _⟩⟩
     case round =>
      obtain ⟨k,tot,p,hk,htot,rfl,rfl,hr⟩ := hrel
      clear HR
      by_cases hlt : k < x.boxes.length
      ·obtain ⟨b,hx⟩ : ∃ b,x.boxes[k]? = some b := ⟨_,List.getElem?_eq_getElem hlt⟩
       obtain ⟨g',off',c',mv,e0,_,q0,q1,q2,q3,hmv⟩ := xFq HB.out hx
       injection e0 with e0 _ e0'
       injection e0 with e0
       injection e0 with e1 e2
       subst e1 e2 e0'
       have hwr : Below w.heap.size w wr := H1.out.trans (hr.out.2.2.2.mono H1.out.size)
       obtain ⟨nb,hnb⟩ : ∃ nb : ByteArray,(⟨b.name.toArray⟩ : ByteArray) = nb := ⟨_,rfl⟩
       have r0 : wr.cell? ⟨g,off + k * 4,none⟩ = some (.string nb) := by rw [← hnb]; exact (hwr.cell hg).trans q0
       have r1 := (hwr.cell (p := ⟨g,off + k * 4 + 1,none⟩) hg).trans q1
       have r2 := (hwr.cell (p := ⟨g,off + k * 4 + 2,none⟩) hg).trans q2
       have r3 := (hwr.cell (p := ⟨g,off + k * 4 + 3,none⟩) hg).trans q3
       have HRB : Hid (∀ W,Below w.heap.size w W → Calls Tryz.prog 113 #[.agg #[.string nb,.int .i64 b.validity,.int .i64 b.next,mv]] W fun e w' => e = .returned (.bool (xAn b)) ∧ Below W.heap.size W w') := hI' (fun W hb => by
        have := xKu b mv W ((hmv.below hb (Nat.le_refl _)).more hb.size) (HM.out b (List.mem_of_getElem? hx))
        rw [← hnb]
        exact this)
       have hml : xAn b = true → b.zA.length ≤ 30 := fun h => by
        unfold xAn at h
        simp only [Bool.and_eq_true,decide_eq_true_eq] at h
        exact h.1.2
       have HSt := hI' (xO1 hx x.given p)
       have HTk := hI' (xMg hx)
       have hi1 : (nb.toList == [73,78,66,79,88]) = (b.name == xAm) := by rw [← hnb,ByteArray.toList_eq]; rfl
       have HNB := hI' hnb
       have Hx := hI' hx
       have Hwr := hI' hwr
       obtain ⟨Am,cm,rfl,hcm,_⟩ := hmv
       clear q0 q1 q2 q3 hnb hwr hx
       generalize xAn b = rb at HRB hml HSt
       generalize (b.name == xAm) = i1 at hi1 HSt
       go_wp2_with fail
       have hb8 := hI' (xLt (Below.refl wr.heap.size wr) (Nat.le_refl _) (.cells #[.string nb,.int .i64 b.validity,.int .i64 b.next,.slice Am b.zA.length cm] 47))
       have pb8 := hI' (xM wr (.cells #[.string nb,.int .i64 b.validity,.int .i64 b.next,.slice Am b.zA.length cm] 47))
       refine (HRB.out _ (Hwr.out.trans (hb8.out.mono Hwr.out.size))).mono ?_
       rintro e w3 ⟨rfl,hb3⟩
       have hb3' := hb8.out.trans (hb3.mono hb8.out.size)
       have HB3 := hI' (Hwr.out.trans (hb3'.mono Hwr.out.size))
       have HBe := hI' (hr.out.2.2.2.trans (hb3'.mono hr.out.2.2.2.size))
       have pb3 := xE pb8.out hb3 (by simp)
       have z0 : w3.cell? ⟨wr.heap.size,0,none⟩ = some (.string nb) := xA pb3 0
       have z1 : w3.cell? ⟨wr.heap.size,1,none⟩ = some (.int .i64 b.validity) := xA pb3 1
       have z3 : w3.cell? ⟨wr.heap.size,3,none⟩ = some (.slice Am b.zA.length cm) := xA pb3 3
       have p3 := xE P1.out HBe.out (by simp)
       have y0 : w3.cell? ⟨w.heap.size,0,none⟩ = some (.slice (some ⟨g,off,none⟩) x.boxes.length c) := xA p3 0
       have y2 : w3.cell? ⟨w.heap.size,2,none⟩ = some (.int .i64 x.given) := xA p3 2
       clear hb3 hb3' pb3 p3 r0 r1 r2 r3 HRB hb8 pb8
       cases rb with
       | false =>
        have HF : Hid (R = false) := hI' (by rw [hr.out.1,HSt.out]; simp)
        go_wp2
        go_ret
        exact ⟨by rw [HF.out]; rfl,HB3.out⟩
       | true =>
        have hml' := hml rfl
        clear hml
        by_cases hv : b.validity < x.given
        ·have hzl : wr.heap.size < w3.heap.size := World.block_lt_of_cell? w3 _ z0
         have hyl : w.heap.size < w3.heap.size := World.block_lt_of_cell? w3 _ y0
         have hgl : g < w3.heap.size := Nat.lt_trans hg hyl
         rcases Nat.lt_trichotomy k 1 with h | h | h
         ·obtain rfl : k = 0 := by omega
          have HT : Hid (R = (rW x.given (x.boxes.drop (0 + 1)) (0 + 1) b.name && Q)) := hI' (by rw [hr.out.1,HSt.out]; simp [hv])
          go_upto_region 11 with fail
          refine RG.xR (fun W => Hid (Below w3.heap.size w3 W)) (by kernel_rfl) (by kernel_rfl) (hI' (Below.refl _ _).drew) ?_
          iterate 23
           apply RG.xC
           ·intro w9 hw9
            have z0' := (hw9.out.cell (p := ⟨wr.heap.size,0,none⟩) hzl).trans z0
            have y0' := (hw9.out.cell (p := ⟨w.heap.size,0,none⟩) hyl).trans y0
            repeat go_step
            with_reducible exact RG.xB hw9
           ·rfl
          refine RG.xW (fun w4 hb4 => ?_)
          have HB4 := hI' (HB3.out.trans (hb4.out.mono HB3.out.size))
          have HBe4 := hI' (HBe.out.trans (hb4.out.mono HBe.out.size))
          have z3' := (hb4.out.cell (p := ⟨wr.heap.size,3,none⟩) hzl).trans z3
          clear hb4
          go_wp2
          exact ⟨⟨0 + 1,tot + b.zA.length,b.name,by omega,by omega,by go_num,by go_num,hI' ⟨HT.out,by rw [HTk.out,← hr.out.2.1],fun i hi => ⟨b,by rw [show i = 0 by omega]; exact Hx.out,rfl⟩,HBe4.out⟩⟩,by simp [intOf]; omega⟩
         ·subst h
          cases i1
          ·have HT : Hid (R = (rW x.given (x.boxes.drop (1 + 1)) (1 + 1) b.name && Q)) := hI' (by rw [hr.out.1,HSt.out]; simp [hv])
           go_upto_region 11 with fail
           refine RG.xR (fun W => Hid (Below w3.heap.size w3 W)) (by kernel_rfl) (by kernel_rfl) (hI' (Below.refl _ _).drew) ?_
           iterate 23
            apply RG.xC
            ·intro w9 hw9
             have z0' := (hw9.out.cell (p := ⟨wr.heap.size,0,none⟩) hzl).trans z0
             have y0' := (hw9.out.cell (p := ⟨w.heap.size,0,none⟩) hyl).trans y0
             repeat go_step
             with_reducible exact RG.xB hw9
            ·rfl
           refine RG.xW (fun w4 hb4 => ?_)
           have HB4 := hI' (HB3.out.trans (hb4.out.mono HB3.out.size))
           have HBe4 := hI' (HBe.out.trans (hb4.out.mono HBe.out.size))
           have z3' := (hb4.out.cell (p := ⟨wr.heap.size,3,none⟩) hzl).trans z3
           clear hb4
           go_wp2
           exact ⟨⟨1 + 1,tot + b.zA.length,b.name,by omega,by omega,by go_num,by go_num,hI' ⟨HT.out,by rw [HTk.out,← hr.out.2.1],fun i hi => ⟨b,by rw [show i = 1 by omega]; exact Hx.out,rfl⟩,HBe4.out⟩⟩,by simp [intOf]; omega⟩
          ·have HF : Hid (R = false) := hI' (by rw [hr.out.1,HSt.out]; simp [hv])
           have hp1 : nb.toList = [73,78,66,79,88] := beq_iff_eq.1 hi1
           go_upto_region 11 with fail
           refine RG.xR (fun W => Hid (Below w3.heap.size w3 W)) (by kernel_rfl) (by kernel_rfl) (hI' (Below.refl _ _).drew) ?_
           iterate 23
            apply RG.xC
            ·intro w9 hw9
             have z0' := (hw9.out.cell (p := ⟨wr.heap.size,0,none⟩) hzl).trans z0
             have y0' := (hw9.out.cell (p := ⟨w.heap.size,0,none⟩) hyl).trans y0
             repeat (first | go_big_skip | go_step)
             with_reducible exact RG.xB hw9
            ·rfl
           refine RG.xW (fun w4 hb4 => ?_)
           have HB4 := hI' (HB3.out.trans (hb4.out.mono HB3.out.size))
           clear hb4
           go_wp2
           go_ret
           exact ⟨by rw [HF.out]; rfl,HB4.out⟩
         ·obtain ⟨j,rfl⟩ : ∃ j,k = j + 1 := ⟨k - 1,by omega⟩
          obtain ⟨b',hx',hp'⟩ := hr.out.2.2.1 j rfl
          obtain ⟨g',off',c',mv,e0,_,q0,_⟩ := xFq HB.out hx'
          injection e0 with e0 _ e0'
          injection e0 with e0
          injection e0 with e1 e2
          subst e1 e2 e0'
          rw [hp'] at q0
          obtain ⟨pb,hpb⟩ : ∃ pb : ByteArray,(⟨p.toArray⟩ : ByteArray) = pb := ⟨_,rfl⟩
          have v0 : w3.cell? ⟨g,off + j * 4,none⟩ = some (.string pb) := by rw [← hpb]; exact (HB3.out.cell hg).trans q0
          have hi2 : (Op.bytesLess nb.toList pb.toList || nb.toList == pb.toList) = leS b.name p := by rw [← HNB.out,← hpb,ByteArray.toList_eq,ByteArray.toList_eq]; rfl
          clear q0 hpb hx' hp'
          have hj0 : 0 < j := by omega
          cases i1
          ·generalize leS b.name p = i2 at hi2 HSt
           cases i2
           ·have HT : Hid (R = (rW x.given (x.boxes.drop ((j + 1) + 1)) ((j + 1) + 1) b.name && Q)) := hI' (by rw [hr.out.1,HSt.out]; simp [hv])
            go_upto_region 11 with fail
            refine RG.xR (fun W => Hid (Below w3.heap.size w3 W)) (by kernel_rfl) (by kernel_rfl) (hI' (Below.refl _ _).drew) ?_
            iterate 23
             apply RG.xC
             ·intro w9 hw9
              have z0' := (hw9.out.cell (p := ⟨wr.heap.size,0,none⟩) hzl).trans z0
              have y0' := (hw9.out.cell (p := ⟨w.heap.size,0,none⟩) hyl).trans y0
              have v0' := (hw9.out.cell (p := ⟨g,off + j * 4,none⟩) hgl).trans v0
              repeat go_step
              with_reducible exact RG.xB hw9
             ·rfl
            refine RG.xW (fun w4 hb4 => ?_)
            have HB4 := hI' (HB3.out.trans (hb4.out.mono HB3.out.size))
            have HBe4 := hI' (HBe.out.trans (hb4.out.mono HBe.out.size))
            have z3' := (hb4.out.cell (p := ⟨wr.heap.size,3,none⟩) hzl).trans z3
            clear hb4
            go_wp2
            exact ⟨⟨(j + 1) + 1,tot + b.zA.length,b.name,by omega,by omega,by go_num,by go_num,hI' ⟨HT.out,by rw [HTk.out,← hr.out.2.1],fun i hi => ⟨b,by rw [show i = j + 1 by omega]; exact Hx.out,rfl⟩,HBe4.out⟩⟩,by simp [intOf]; omega⟩
           ·have HF : Hid (R = false) := hI' (by rw [hr.out.1,HSt.out]; simp [hv,hj0])
            go_upto_region 11 with fail
            refine RG.xR (fun W => Hid (Below w3.heap.size w3 W)) (by kernel_rfl) (by kernel_rfl) (hI' (Below.refl _ _).drew) ?_
            iterate 23
             apply RG.xC
             ·intro w9 hw9
              have z0' := (hw9.out.cell (p := ⟨wr.heap.size,0,none⟩) hzl).trans z0
              have y0' := (hw9.out.cell (p := ⟨w.heap.size,0,none⟩) hyl).trans y0
              have v0' := (hw9.out.cell (p := ⟨g,off + j * 4,none⟩) hgl).trans v0
              repeat go_step
              with_reducible exact RG.xB hw9
             ·rfl
            refine RG.xW (fun w4 hb4 => ?_)
            have HB4 := hI' (HB3.out.trans (hb4.out.mono HB3.out.size))
            clear hb4
            go_wp2
            go_ret
            exact ⟨by rw [HF.out]; rfl,HB4.out⟩
          ·have HF : Hid (R = false) := hI' (by rw [hr.out.1,HSt.out]; simp [hv])
           have hp1 : nb.toList = [73,78,66,79,88] := beq_iff_eq.1 hi1
           go_upto_region 11 with fail
           refine RG.xR (fun W => Hid (Below w3.heap.size w3 W)) (by kernel_rfl) (by kernel_rfl) (hI' (Below.refl _ _).drew) ?_
           iterate 23
            apply RG.xC
            ·intro w9 hw9
             have z0' := (hw9.out.cell (p := ⟨wr.heap.size,0,none⟩) hzl).trans z0
             have y0' := (hw9.out.cell (p := ⟨w.heap.size,0,none⟩) hyl).trans y0
             have v0' := (hw9.out.cell (p := ⟨g,off + j * 4,none⟩) hgl).trans v0
             repeat (first | go_big_skip | go_step)
             with_reducible exact RG.xB hw9
            ·rfl
           refine RG.xW (fun w4 hb4 => ?_)
           have HB4 := hI' (HB3.out.trans (hb4.out.mono HB3.out.size))
           clear hb4
           go_wp2
           go_ret
           exact ⟨by rw [HF.out]; rfl,HB4.out⟩
        ·have HF : Hid (R = false) := hI' (by rw [hr.out.1,HSt.out]; simp [hv])
         go_wp2
         go_ret
         exact ⟨by rw [HF.out]; rfl,HB3.out⟩
      ·obtain rfl : k = x.boxes.length := by omega
       have HE : Hid (R = (xCu (x.subs.drop 0) 0 [] && decide (tot ≤ 30)) ∧ ∀ j,(0 : Nat) = j + 1 → x.subs[j]? = some []) := hI' ⟨by rw [hr.out.1,List.drop_length,← HQ.out,hr.out.2.1,List.take_length]; simp [rW],fun j hj => by omega⟩
       have HWR : Hid (Below w.heap.size w wr) := hI' (H1.out.trans (hr.out.2.2.2.mono H1.out.size))
       have y1 : wr.cell? ⟨w.heap.size,1,none⟩ = some (.slice A2 x.subs.length c2) := xA (xE P1.out hr.out.2.2.2 (by simp)) 1
       clear hr
       go_wp2_with fail
       go_loop [86] (fun iv => ∃ (k : Nat) (p : Bs),k ≤ x.subs.length ∧ iv = .int .i64 k ∧ Hid (R = (xCu (x.subs.drop k) k p && decide (tot ≤ 30)) ∧ ∀ j,k = j + 1 → x.subs[j]? = some p)) (fun iv => x.subs.length - (intOf iv).toNat)
       case atStart => exact ⟨0,[],Nat.zero_le _,rfl,HE⟩
       case round =>
        obtain ⟨k,p,hk,rfl,hr⟩ := hrel
        clear HE
        by_cases hlt : k < x.subs.length
        ·obtain ⟨s,hx⟩ : ∃ s,x.subs[k]? = some s := ⟨_,List.getElem?_eq_getElem hlt⟩
         obtain ⟨A3,c3,e0,_,hrd⟩ := HS.out
         injection e0 with e0 _ e0'
         subst e0 e0'
         obtain ⟨g2,off2,rfl,hg2,hcell⟩ := hrd (by omega)
         have q0 := (HWR.out.cell (p := ⟨g2,off2 + k,none⟩) hg2).trans (hcell k s hx)
         obtain ⟨sb,hsb⟩ : ∃ sb : ByteArray,(⟨s.toArray⟩ : ByteArray) = sb := ⟨_,rfl⟩
         have r0 : wr.cell? ⟨g2,off2 + k,none⟩ = some (.string sb) := by rw [← hsb]; exact q0
         have HSt := hI' (xQn hx p)
         have HN : Hid (∀ W,Calls Tryz.prog 114 #[.string sb] W fun e w' => e = .returned (.bool (nameP s)) ∧ w' = W) := hI' (fun W => by
          have := xD1 sb W
          rw [show sb.data.toList = s by rw [← hsb]] at this
          exact this)
         generalize nameP s = rn at HN HSt
         have Hx := hI' hx
         rcases Nat.eq_zero_or_pos k with h | h
         ·subst h
          clear q0 hsb hx hcell hrd
          have r0' : wr.cell? ⟨g2,off2,none⟩ = some (.string sb) := by simpa using r0
          cases rn with
          | false =>
           have HF : Hid (R = false) := hI' (by rw [hr.out.1,HSt.out]; simp)
           go_wp2_with (first | go_big_skip | (go_at_call 114; refine (HN.out _).mono ?_; rintro e w' ⟨rfl,rfl⟩))
           go_ret
           exact ⟨by rw [HF.out]; rfl,HWR.out⟩
          | true =>
           have HT : Hid (R = (xCu (x.subs.drop (0 + 1)) (0 + 1) s && decide (tot ≤ 30))) := hI' (by rw [hr.out.1,HSt.out]; simp)
           go_wp2_with (first | go_big_skip | (go_at_call 114; refine (HN.out _).mono ?_; rintro e w' ⟨rfl,rfl⟩))
           exact ⟨⟨0 + 1,s,by omega,by go_num,hI' ⟨HT.out,fun i hi => by rw [show i = 0 by omega]; exact Hx.out⟩⟩,by simp [intOf]; omega⟩
         ·obtain ⟨j,rfl⟩ : ∃ j,k = j + 1 := ⟨k - 1,by omega⟩
          have hx' := hr.out.2 j rfl
          obtain ⟨pb,hpb⟩ : ∃ pb : ByteArray,(⟨p.toArray⟩ : ByteArray) = pb := ⟨_,rfl⟩
          have v0 : wr.cell? ⟨g2,off2 + j,none⟩ = some (.string pb) := by rw [← hpb]; exact (HWR.out.cell (p := ⟨g2,off2 + j,none⟩) hg2).trans (hcell j p hx')
          have hi2 : (Op.bytesLess sb.toList pb.toList || sb.toList == pb.toList) = leS s p := by rw [← hsb,← hpb,ByteArray.toList_eq,ByteArray.toList_eq]; rfl
          generalize leS s p = i2 at hi2 HSt
          clear q0 hsb hx hcell hrd hpb hx'
          cases rn with
          | false =>
           have HF : Hid (R = false) := hI' (by rw [hr.out.1,HSt.out]; simp)
           go_wp2_with (first | go_big_skip | (go_at_call 114; refine (HN.out _).mono ?_; rintro e w' ⟨rfl,rfl⟩))
           go_ret
           exact ⟨by rw [HF.out]; rfl,HWR.out⟩
          | true =>
           cases i2 with
           | true =>
            have HF : Hid (R = false) := hI' (by rw [hr.out.1,HSt.out]; simp)
            go_wp2_with (first | go_big_skip | (go_at_call 114; refine (HN.out _).mono ?_; rintro e w' ⟨rfl,rfl⟩))
            go_ret
            exact ⟨by rw [HF.out]; rfl,HWR.out⟩
           | false =>
            have HT : Hid (R = (xCu (x.subs.drop (j + 1 + 1)) (j + 1 + 1) s && decide (tot ≤ 30))) := hI' (by rw [hr.out.1,HSt.out]; simp)
            go_wp2_with (first | go_big_skip | (go_at_call 114; refine (HN.out _).mono ?_; rintro e w' ⟨rfl,rfl⟩))
            exact ⟨⟨j + 1 + 1,s,by omega,by go_num,hI' ⟨HT.out,fun i hi => by rw [show i = j + 1 by omega]; exact Hx.out⟩⟩,by simp [intOf]; omega⟩
        ·have HF : Hid (R = decide (tot ≤ 30)) := hI' (by rw [hr.out.1,List.drop_eq_nil_iff.2 (by omega)]; simp [xCu])
         by_cases h30 : tot ≤ 30
         ·rw [decide_eq_true h30] at HF
          go_wp2
          go_ret
          exact ⟨by rw [HF.out]; simp; omega,HWR.out⟩
         ·rw [decide_eq_false h30] at HF
          go_wp2
          go_ret
          exact ⟨by rw [HF.out]; simp; omega,HWR.out⟩
   ·have HF : Hid (R = false) := hI' (by rw [HR.out,decide_eq_false h2]; simp)
    go_enter Tryz.func70,Tryz.ntmps70
    go_wp2
    go_ret
    exact ⟨by rw [HF.out]; rfl,H1.out⟩
 ·have HF : Hid (R = false) := hI' (by
   rw [HR.out]
   rcases Nat.lt_or_ge x.boxes.length 1 with h9 | h9
   ·rw [decide_eq_false (by omega)]; simp
   ·rw [decide_eq_false (p := x.boxes.length ≤ 6) (by omega)]; simp)
  have h1' : x.boxes.length < 1 ∨ 6 < x.boxes.length := by omega
  clear h1
  rcases h1' with h1 | h1
  all_goals
   go_enter Tryz.func70,Tryz.ntmps70
   go_wp2
   go_ret
   exact ⟨by rw [HF.out]; rfl,H1.out⟩
end Go.Proofs.IX
namespace Go.Proofs.VB
open Go.RowKit Mailsack MM BU
def qB (w : World) (base : Nat) (v : Value) (l : Bs) : Prop := w.ownsRow base 5 1 v l.length (l.map fun c => Value.int .u8 c.toNat)
theorem qB.nil (w : World) (base : Nat) : qB w base (.slice none 0 0) [] := World.ownsRow_nil w base _ _
theorem qB.of {w : World} {base : Nat} {v : Value} {l : Bs} {c : UInt8} (h : w.ownsRow base 5 1 v (l.length + 1) (l.map (fun c => Value.int .u8 c.toNat) ++ [.int .u8 c.toNat])) : qB w base v (l ++ [c]) := by
 unfold qB; rw [List.length_append,List.map_append]; exact h
theorem qB.alloc {w : World} {base : Nat} {v : Value} {l : Bs} (h : qB w base v l) (o : Obj) : (w.alloc o).ownsRow base 5 1 v l.length (l.map fun c => Value.int .u8 c.toNat) := World.ownsRow.alloc h o
theorem xW0 {w : World} {base : Nat} {v : Value} {l : Bs} (h : qB w base v l) : (convert 113 9 v).run Tryz.prog w = .ok (xU l) w := by
 rcases h.2 with ⟨h1,h2⟩ | ⟨g,cap,cur,h1,_,_,h2,_⟩
 ·have : l = [] := List.eq_nil_of_length_eq_zero h2
  subst this
  have h0 : ∀ W : World,(convert 113 9 (.slice none 0 0)).run Tryz.prog W = .ok (.string ⟨#[]⟩) W := fun _ => by kernel_rfl
  rw [h1]
  exact h0 w
 ·rw [h1]
  refine run_convert_bytes_back w _ _ 5 ⟨g,0,none⟩ cap l Tryz.underlying113 Tryz.underlying5 Tryz.underlying9 (fun j hj => ?_)
  exact World.ownsRow.cells h (g := g) (by rw [h1]; rfl) j _ (by simp [hj])
end Go.Proofs.VB
