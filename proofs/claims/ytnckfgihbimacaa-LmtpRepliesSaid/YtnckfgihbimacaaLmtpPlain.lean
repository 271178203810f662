/- Plain definitions and laws about the protocol of layer 18 (no program). No conditions but those stated. -/
import Derived.Test.YtnckfgihbimacaaUpPlain
import Derived.Lib.Strings
namespace Mailsack

theorem trimPrefix_len (l p : Bs) : (Go.Lib.trimPrefix l p).length ≤ l.length := by
  unfold Go.Lib.trimPrefix
  split
  · rw [List.length_drop]; omega
  · exact Nat.le_refl _
theorem trimSuffix_len (l p : Bs) : (Go.Lib.trimSuffix l p).length ≤ l.length := by
  unfold Go.Lib.trimSuffix
  split
  · rw [List.length_take]; omega
  · exact Nat.le_refl _
theorem size_mk (l : Bs) : (⟨l.toArray⟩ : ByteArray).size = l.length := rfl

structure LSt where
  hello : Bool
  hasFrom : Bool
  data : Bool
  long : Bool
  frm : Bs
  body : Bs
  to : List Bs

/-- a byte of an address's signs -/
def isAngle (c : UInt8) : Bool := c == 60 || c == 62
/-- the text of the address behind a word -/
def addrP (arg word : Bs) : Option Bs :=
  if arg.length < word.length ∨ upP (arg.take word.length) ≠ word then none
  else if Go.Lib.hasPrefix (arg.drop word.length) [60] = true ∧ Go.Lib.hasSuffix (Go.Lib.trimPrefix (arg.drop word.length) [60]) [62] = true ∧
      (Go.Lib.trimSuffix (Go.Lib.trimPrefix (arg.drop word.length) [60]) [62]).any isAngle = false then some (Go.Lib.trimSuffix (Go.Lib.trimPrefix (arg.drop word.length) [60]) [62])
  else none

theorem addrP_len {arg word t : Bs} (h : addrP arg word = some t) : t.length ≤ arg.length := by
  unfold addrP at h
  split at h
  · cases h
  · split at h
    · injection h with h
      rw [← h]
      exact Nat.le_trans (trimSuffix_len _ _) (Nat.le_trans (trimPrefix_len _ _) (by rw [List.length_drop]; omega))
    · cases h
theorem cut_len {l sep a b : Bs} {c : Bool} (h : Go.Lib.cut l sep = (a, b, c)) : a.length ≤ l.length := by
  unfold Go.Lib.cut at h
  split at h
  · injection h with h1 _; rw [← h1, List.length_take]; omega
  · injection h with h1 _; rw [← h1]; exact Nat.le_refl _
def userByte (c : UInt8) : Bool := decide (97 ≤ c.toNat ∧ c.toNat ≤ 122) || decide (48 ≤ c.toNat ∧ c.toNat ≤ 57)
def userOk (l : Bs) : Bool := decide (1 ≤ l.length) && decide (l.length ≤ 8) && l.all userByte

def rHello : Bs := [50, 53, 48, 32, 109, 97, 105, 108, 115, 97, 99, 107]
def rFine : Bs := [50, 53, 48, 32, 111, 107]
def rGoOn : Bs := [51, 53, 52, 32, 103, 111, 32, 111, 110]
def rBye : Bs := [50, 50, 49, 32, 98, 121, 101]
def rSyntax : Bs := [53, 48, 49, 32, 115, 121, 110, 116, 97, 120]
def rSequence : Bs := [53, 48, 51, 32, 115, 101, 113, 117, 101, 110, 99, 101]
def rNoUser : Bs := [53, 53, 48, 32, 110, 111, 32, 115, 117, 99, 104, 32, 117, 115, 101, 114]
def rTooMany : Bs := [52, 53, 50, 32, 116, 111, 111, 32, 109, 97, 110, 121]
def rWhat : Bs := [53, 48, 48, 32, 119, 104, 97, 116]

def doneP (s : LSt) : LSt := ⟨s.hello, false, false, false, [], [], []⟩
def endedP (s : LSt) (line : Bs) : Bool := s.data && decide (line = [46])
def receiveP (s : LSt) (line : Bs) : LSt :=
  if endedP s line = true then s
  else if 700 < (s.body ++ (Go.Lib.trimPrefix line [46] ++ [13, 10])).length then { s with body := (s.body ++ (Go.Lib.trimPrefix line [46] ++ [13, 10])).take 700, long := true }
  else { s with body := s.body ++ (Go.Lib.trimPrefix line [46] ++ [13, 10]) }
def simpleP (s : LSt) (word : Bs) : LSt × Bs :=
  if word = [82, 83, 69, 84] then (doneP s, rFine)
  else if word = [81, 85, 73, 84] then (s, rBye)
  else if s.to.length = 0 then (s, rSequence)
  else ({ s with data := true }, rGoOn)
def mailP (s : LSt) (arg : Bs) : LSt × Bs :=
  if s.hello = false then (s, rSequence)
  else match addrP arg [70, 82, 79, 77, 58] with
    | none => (s, rSyntax)
    | some f => if s.hasFrom = true then (s, rSequence) else ({ s with hasFrom := true, frm := f, to := [] }, rFine)
def rcptP (s : LSt) (arg : Bs) (users : List Bs) : LSt × Bs :=
  if s.hasFrom = false then (s, rSequence)
  else match addrP arg [84, 79, 58] with
    | none => (s, rSyntax)
    | some t =>
      if userOk (Go.Lib.cut t [64]).1 = false then (s, rSyntax)
      else if (Go.Lib.cut t [64]).1 ∉ users then (s, rNoUser)
      else if 4 ≤ s.to.length then (s, rTooMany)
      else ({ s with to := s.to ++ [(Go.Lib.cut t [64]).1] }, rFine)
def lineP (s : LSt) (line : Bs) (users : List Bs) : LSt × Bs :=
  if s.data = true then (receiveP s line, [])
  else
    let W := upP (Go.Lib.cut line [32]).1
    let arg := (Go.Lib.cut line [32]).2.1
    let has := (Go.Lib.cut line [32]).2.2
    if W = [76, 72, 76, 79] then (if arg = [] then (s, rSyntax) else (⟨true, false, false, false, [], [], []⟩, rHello))
    else if W = [77, 65, 73, 76] then mailP s arg
    else if W = [82, 67, 80, 84] then rcptP s arg users
    else if W = [78, 79, 79, 80] then (s, rFine)
    else if W = [68, 65, 84, 65] ∨ W = [82, 83, 69, 84] ∨ W = [81, 85, 73, 84] then (if has = true then (s, rSyntax) else simpleP s W)
    else (s, rWhat)
/-- a command: its word in capitals, what stands behind, and whether a space does -/
def lineW (s : LSt) (W arg : Bs) (has : Bool) (users : List Bs) : LSt × Bs :=
  if W = [76, 72, 76, 79] then (if arg = [] then (s, rSyntax) else (⟨true, false, false, false, [], [], []⟩, rHello))
  else if W = [77, 65, 73, 76] then mailP s arg
  else if W = [82, 67, 80, 84] then rcptP s arg users
  else if W = [78, 79, 79, 80] then (s, rFine)
  else if W = [68, 65, 84, 65] ∨ W = [82, 83, 69, 84] ∨ W = [81, 85, 73, 84] then (if has = true then (s, rSyntax) else simpleP s W)
  else (s, rWhat)
theorem cut_len2 {l sep a b : Bs} {c : Bool} (h : Go.Lib.cut l sep = (a, b, c)) : b.length ≤ l.length := by
  unfold Go.Lib.cut at h
  split at h
  · injection h with _ h1; injection h1 with h1 _; rw [← h1, List.length_drop]; omega
  · injection h with _ h1; injection h1 with h1 _; rw [← h1]; simp
end Mailsack
