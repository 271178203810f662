/- An index in memory, and as plain data. No conditions but those stated. -/
import Derived.Test.YtiapdhllphcnnaaGreatDoorMem
import Derived.Test.YtiapdhllphcnnaaGreatDoorLinesPlain
namespace Mailsack
structure MailP where
  uid : Int
  flags : Int
  object : Int
  size : Int
structure BoxP where
  name : Bs
  validity : Int
  next : Int
  mails : List MailP
structure IndexP where
  boxes : List BoxP
  subs : List Bs
  given : Int
end Mailsack
namespace Go.Proofs.YtiapdhllphcnnaaGreatDoor.IX
open Go.RowKit Mailsack MM

/-- the slice value v reads as these messages -/
def RdMails (w : World) (B : Nat) (v : Value) (L : List MailP) : Prop :=
  ∃ A c, v = .slice A L.length c ∧ L.length ≤ c ∧ (0 < L.length → ∃ b off, A = some ⟨b, off, none⟩ ∧ b < B ∧ ∀ (j : Nat) m, L[j]? = some m →
    w.cell? ⟨b, off + j * 4, none⟩ = some (.int .i64 m.uid) ∧ w.cell? ⟨b, off + j * 4 + 1, none⟩ = some (.int .i64 m.flags) ∧ w.cell? ⟨b, off + j * 4 + 2, none⟩ = some (.int .i64 m.object) ∧ w.cell? ⟨b, off + j * 4 + 3, none⟩ = some (.int .i64 m.size))
theorem RdMails.keep {w w' : World} {B : Nat} {v : Value} {L : List MailP} (h : RdMails w B v L) (hk : ∀ p : Addr, p.block < B → w'.cell? p = w.cell? p) : RdMails w' B v L := by
  obtain ⟨A, c, h1, h2, h3⟩ := h
  refine ⟨A, c, h1, h2, fun hn => ?_⟩
  obtain ⟨b, off, h4, h5, h6⟩ := h3 hn
  refine ⟨b, off, h4, h5, fun j m hm => ?_⟩
  obtain ⟨k1, k2, k3, k4⟩ := h6 j m hm
  exact ⟨(hk _ h5).trans k1, (hk _ h5).trans k2, (hk _ h5).trans k3, (hk _ h5).trans k4⟩
theorem RdMails.more {w : World} {B B' : Nat} {v : Value} {L : List MailP} (h : RdMails w B v L) (hB : B ≤ B') : RdMails w B' v L := by
  obtain ⟨A, c, h1, h2, h3⟩ := h
  refine ⟨A, c, h1, h2, fun hn => ?_⟩
  obtain ⟨b, off, h4, h5, h6⟩ := h3 hn
  exact ⟨b, off, h4, by omega, h6⟩
/-- the slice value v reads as these mailboxes -/
def RdBoxes (w : World) (B : Nat) (v : Value) (L : List BoxP) : Prop :=
  ∃ A c, v = .slice A L.length c ∧ L.length ≤ c ∧ (0 < L.length → ∃ b off, A = some ⟨b, off, none⟩ ∧ b < B ∧ ∀ (j : Nat) x, L[j]? = some x → ∃ mv,
    w.cell? ⟨b, off + j * 4, none⟩ = some (strV x.name) ∧ w.cell? ⟨b, off + j * 4 + 1, none⟩ = some (.int .i64 x.validity) ∧ w.cell? ⟨b, off + j * 4 + 2, none⟩ = some (.int .i64 x.next) ∧ w.cell? ⟨b, off + j * 4 + 3, none⟩ = some mv ∧ RdMails w B mv x.mails)
theorem RdBoxes.keep {w w' : World} {B : Nat} {v : Value} {L : List BoxP} (h : RdBoxes w B v L) (hk : ∀ p : Addr, p.block < B → w'.cell? p = w.cell? p) : RdBoxes w' B v L := by
  obtain ⟨A, c, h1, h2, h3⟩ := h
  refine ⟨A, c, h1, h2, fun hn => ?_⟩
  obtain ⟨b, off, h4, h5, h6⟩ := h3 hn
  refine ⟨b, off, h4, h5, fun j m hm => ?_⟩
  obtain ⟨mv, k1, k2, k3, k4, k5⟩ := h6 j m hm
  exact ⟨mv, (hk _ h5).trans k1, (hk _ h5).trans k2, (hk _ h5).trans k3, (hk _ h5).trans k4, k5.keep hk⟩
theorem RdBoxes.more {w : World} {B B' : Nat} {v : Value} {L : List BoxP} (h : RdBoxes w B v L) (hB : B ≤ B') : RdBoxes w B' v L := by
  obtain ⟨A, c, h1, h2, h3⟩ := h
  refine ⟨A, c, h1, h2, fun hn => ?_⟩
  obtain ⟨b, off, h4, h5, h6⟩ := h3 hn
  refine ⟨b, off, h4, by omega, fun j m hm => ?_⟩
  obtain ⟨mv, k1, k2, k3, k4, k5⟩ := h6 j m hm
  exact ⟨mv, k1, k2, k3, k4, k5.more hB⟩
theorem RdBoxes.below {w w' : World} {B B' : Nat} {v : Value} {L : List BoxP} (h : RdBoxes w B v L) (hb : Below B' w w') (hB : B ≤ B') : RdBoxes w' B v L := h.keep fun _ hp => hb.cell (by omega)
theorem RdMails.below {w w' : World} {B B' : Nat} {v : Value} {L : List MailP} (h : RdMails w B v L) (hb : Below B' w w') (hB : B ≤ B') : RdMails w' B v L := h.keep fun _ hp => hb.cell (by omega)
/-- two values that read as an index -/
structure RdIx (w : World) (B : Nat) (bv sv : Value) (x : IndexP) : Prop where
  boxes : RdBoxes w B bv x.boxes
  subs : RdS w B sv x.subs
theorem RdIx.below {w w' : World} {B B' : Nat} {bv sv : Value} {x : IndexP} (h : RdIx w B bv sv x) (hb : Below B' w w') (hB : B ≤ B') : RdIx w' B bv sv x := ⟨h.boxes.below hb hB, h.subs.below hb hB⟩
theorem RdIx.more {w : World} {B B' : Nat} {bv sv : Value} {x : IndexP} (h : RdIx w B bv sv x) (hB : B ≤ B') : RdIx w B' bv sv x := ⟨h.boxes.more hB, h.subs.more hB⟩
end Go.Proofs.YtiapdhllphcnnaaGreatDoor.IX
