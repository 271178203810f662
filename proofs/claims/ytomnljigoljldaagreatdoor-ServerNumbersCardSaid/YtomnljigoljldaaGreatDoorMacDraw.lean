/- What mac.mask returns. Conditions: a key of at most 64 bytes; the text's length. -/
/- What mac.Sum, mac.Same return. Conditions: lengths; the package sha's two tables. -/
/- What mac.Draw returns. Conditions: lengths; at most 8160 bytes; the package sha's two tables. -/
import Derived.Test.YtomnljigoljldaaGreatDoorByteOwn
import Derived.Test.YtomnljigoljldaaGreatDoorRegL
import Derived.OpenShut
import Derived.WalkKit
import Derived.WalkLawsBesides
import Derived.WalkSpells
import Derived.Lib.Hide
import Derived.Deep.Cut
import Derived.Test.YtomnljigoljldaaGreatDoorShaSum
import Derived.Deep.QuietTactic

namespace Mailsack
theorem bits_u8 (op : Go.BinOp) (x y : Int) : 0 ≤ Go.bits op .u8 x y ∧ Go.bits op .u8 x y < 256 := by
  have h := Go.wf_bits op .u8 x y
  simp [Go.Lit.wf] at h
  have e1 : Go.IntKind.u8.min = 0 := (by decide)
  have e2 : Go.IntKind.u8.max = 255 := (by decide)
  omega
/-- the first k bytes combined with b -/
def xorP (l : Bs) (b : Int) : Nat → Bs
  | 0 => l
  | k + 1 => (xorP l b k).set k (oct (Go.bits .xor .u8 (((xorP l b k).getD k 0).toNat : Int) b))
theorem xorP_len (l : Bs) (b : Int) : ∀ k, (xorP l b k).length = l.length
  | 0 => rfl
  | k + 1 => by simp [xorP, xorP_len l b k]
def maskA (key s : Bs) : Bs := key ++ (zerosB (64 + s.length)).drop key.length
def maskP (key : Bs) (b : Int) (s : Bs) : Bs := (xorP (maskA key s) b 64).take 64 ++ s
theorem maskP_len (key : Bs) (b : Int) (s : Bs) (h : key.length ≤ 64) : (maskP key b s).length = 64 + s.length := by
  unfold maskP maskA
  rw [List.length_append, List.length_take, xorP_len, List.length_append, List.length_drop, zerosB_len]
  omega
end Mailsack
namespace Go.Proofs.YtomnljigoljldaaGreatDoor.SH
open Go.RowKit Mailsack MM BB

theorem HasB.putV {W : World} {g : Nat} {l : Bs} (h : HasB W g l) (i : Nat) {z : Int} (h0 : 0 ≤ z) (h1 : z < 256) : HasB (W.setCell ⟨g, i, none⟩ (.int .u8 z)) g (l.set i (oct z)) := by
  have := h.put i z
  rwa [show z % 256 = z by omega] at this

set_option maxHeartbeats 1000000 in
set_option maxRecDepth 100000 in
theorem mask_any (key s : ByteArray) (b : Int) (w : World) (hk : key.size ≤ 64) (hs : s.size ≤ 1099511627776) :
    Calls Tryz.prog 178 #[.string key, .int .u8 b, .string s] w fun e w' => e = .returned (.string ⟨(maskP key.data.toList b s.data.toList).toArray⟩) ∧ Below w.heap.size w w' := by
  have hkl : key.data.toList.length = key.size := by simp
  have hsl : s.data.toList.length = s.size := by simp
  have hmk : ∀ W : World, (Instr.makeSlice 88 (.int .i64 64) (.int .i64 (64 + (s.size : Int)))).run Tryz.prog W = .ok (.slice (some ⟨W.heap.size, 0, none⟩) 64 (64 + s.size)) (W.alloc (.cells (encB (zerosB (64 + s.size))) 5)) := fun W => made W 64 (64 + s.size) (by omega) (by omega)
  have HB0 : Hid (HasB (w.alloc (.cells (encB (zerosB (64 + s.size))) 5)) w.heap.size (zerosB (64 + s.size))) := Lib.hid (blk_new _ _)
  have HW0 := Lib.hid ((Below.refl w.heap.size w).alloc (Nat.le_refl _) (.cells (encB (zerosB (64 + s.size))) 5))
  go_enter Tryz.func178, Tryz.ntmps178
  go_upto_region 2 with fail
  refine wp_region_lit ?_
  iterate 6 go_step
  refine Lib.wpList_copy_run _ rfl _ _ _ _ rfl _ _ rfl rfl (copied HB0.out _ _ _ _ (by omega) (by rw [zerosB_len]; omega)) ?_
  have HB1 : Hid (HasB ((w.alloc (.cells (encB (zerosB (64 + s.size))) 5)).setRow w.heap.size (encB (key.data.toList ++ (zerosB (64 + s.size)).drop key.size))) w.heap.size (xorP (maskA key.data.toList s.data.toList) b 0)) := Lib.hid (by
    have h := HB0.out.row (key.data.toList ++ (zerosB (64 + s.size)).drop key.size)
    unfold xorP maskA
    rw [hkl, hsl]
    exact h)
  have HW1 := Lib.hid (below_setRow HW0.out (Nat.le_refl _) (encB (key.data.toList ++ (zerosB (64 + s.size)).drop key.size)))
  clear hmk HB0 HW0
  generalize (w.alloc (.cells (encB (zerosB (64 + s.size))) 5)).setRow w.heap.size (encB (key.data.toList ++ (zerosB (64 + s.size)).drop key.size)) = w1 at HB1 HW1 ⊢
  have HL : Hid ((maskA key.data.toList s.data.toList).length = 64 + s.size) := Lib.hid (by unfold maskA; rw [List.length_append, List.length_drop, zerosB_len]; omega)
  have HXL := Lib.hid (fun k => xorP_len (maskA key.data.toList s.data.toList) b k)
  have HP : Hid (∀ n, n = 64 → maskP key.data.toList b s.data.toList = (xorP (maskA key.data.toList s.data.toList) b n).take n ++ s.data.toList) := Lib.hid (fun n hn => by subst hn; rfl)
  generalize maskA key.data.toList s.data.toList = l at HB1 HL HXL HP
  clear hkl
  go_wp2_with fail
  go_loopw [18] (fun iv wr => ∃ k : Nat, k ≤ 64 ∧ iv = .int .i64 k ∧ Hid (HasB wr w.heap.size (xorP l b k) ∧ Below w.heap.size w wr)) (fun iv _ => 64 - (intOf iv).toNat)
  case atStart => exact ⟨0, by decide, rfl, Lib.hid ⟨HB1.out, HW1.out⟩⟩
  case round =>
    obtain ⟨k, hk, rfl, hr⟩ := hrel
    clear HB1 HW1
    by_cases hlt : k < 64
    · have q0 := hr.out.1.cell (i := k) (by rw [HXL.out k, HL.out]; omega)
      have q1 := hr.out.1.free k
      have hu := bits_u8 .xor (((xorP l b k).getD k 0).toNat : Int) b
      have HK : Hid (HasB (wr.setCell ⟨w.heap.size, k, none⟩ (.int .u8 (bits .xor .u8 (((xorP l b k).getD k 0).toNat : Int) b))) w.heap.size (xorP l b (k + 1))) := Lib.hid (HasB.putV hr.out.1 k hu.1 hu.2)
      have HKW := Lib.hid (hr.out.2.setCell (p := ⟨w.heap.size, k, none⟩) (Nat.le_refl _) (.int .u8 (bits .xor .u8 (((xorP l b k).getD k 0).toNat : Int) b)))
      clear hr hu
      generalize (((xorP l b k).getD k 0).toNat : Int) = x at q0 HK HKW
      go_wp2
      exact ⟨⟨k + 1, by omega, by go_num, Lib.hid ⟨HK.out, HKW.out⟩⟩, by simp [intOf]; omega⟩
    · have hke : k = 64 := by omega
      have HPk := Lib.hid (HP.out k hke)
      clear HP
      obtain ⟨i0, hi, hz0, hz1, hz2⟩ := info_row infoY
      have HO : Hid (OwnY wr w.heap.size (.slice (some ⟨w.heap.size, 0, none⟩) k (64 + s.size)) ((xorP l b k).take k)) := Lib.hid (by
        have h := OwnY.head hr.out.1 k w.heap.size (Nat.le_refl _) (by rw [HXL.out, HL.out]; omega) (by rw [HXL.out, HL.out]; omega)
        rw [HXL.out, HL.out] at h
        exact h)
      have HTL : Hid (((xorP l b k).take k).length = k) := Lib.hid (by rw [List.length_take, HXL.out, HL.out]; omega)
      have HBW := Lib.hid hr.out.2
      clear hr
      generalize (xorP l b k).take k = hd at HO HTL HPk
      subst hke
      clear hk hlt
      have HO2 : Hid (wr.ownsRow w.heap.size 5 1 (.slice (some ⟨w.heap.size, 0, none⟩) 64 (64 + s.size)) 64 (hd.map fun c => Value.int .u8 (c.toNat : Int))) := Lib.hid (by have h := HO.out.row; rw [HTL.out] at h; exact h)
      have HS := Lib.hid hs
      go_wp2_with (at_builtin; refine wpList_ownY rfl _ _ 88 9 rfl w.heap.size 5 i0 Tryz.underlying88 Tryz.underlying9 hi hz0 hz1 hz2 w.heap.size 64 (64 + s.size) _ rfl HO2.out s rfl (by have := HS.out; unfold maxLen; omega) (by have := HS.out; omega) HBW.out.size ?_; intro v3 w3 hown hgrow hloc; have h7 := OwnY.text (l := hd ++ s.data.toList) (OwnY.of (by rw [HTL.out, hsl]; exact hown)); have h8 := Lib.hid (HBW.out.grown hgrow HBW.out.size (fun k hk => by injection hk with hk; omega)); clear hown hgrow hloc)
      rw [← HPk.out]
      go_ret
      exact ⟨rfl, h8.out⟩
end Go.Proofs.YtomnljigoljldaaGreatDoor.SH


namespace Mailsack
def bsA (l : Bs) : ByteArray := ⟨l.toArray⟩
/-- a key of at most 64 bytes -/
def keyP (key : ByteArray) : ByteArray := if 64 < key.size then bsA (shaP key) else key
def macP (key s : ByteArray) : Bs := shaP (bsA (maskP (keyP key).data.toList 92 (shaP (bsA (maskP (keyP key).data.toList 54 s.data.toList)))))
theorem bsA_size (l : Bs) : (bsA l).size = l.length := by simp [bsA, ByteArray.size]
theorem keyP_size (key : ByteArray) : (keyP key).size ≤ 64 := by
  unfold keyP
  split
  · rw [bsA_size, shaP_len]; decide
  · omega
theorem macP_len (key s : ByteArray) : (macP key s).length = 32 := shaP_len _
end Mailsack
namespace Go.Proofs.YtomnljigoljldaaGreatDoor.SH
open Go.RowKit Mailsack MM BB

set_option maxHeartbeats 1000000 in
set_option maxRecDepth 100000 in
theorem msum_any (key s : ByteArray) (w : World) (hk : key.size ≤ 1099511627776) (hs : s.size ≤ 1099511627776) (hT : ShaT w) :
    Calls Tryz.prog 98 #[.string key, .string s] w fun e w' => e = .returned (strV (macP key s)) ∧ Below w.heap.size w w' := by
  have HT := Lib.hid hT
  have HM : Hid (∀ W, Calls Tryz.prog 178 #[.string (keyP key), .int .u8 54, .string s] W fun e w' => e = .returned (.string (bsA (maskP (keyP key).data.toList 54 s.data.toList))) ∧ Below W.heap.size W w') := Lib.hid (fun W => mask_any (keyP key) s 54 W (keyP_size key) hs)
  have HS : Hid (∀ W, ShaT W → Calls Tryz.prog 177 #[.string (bsA (maskP (keyP key).data.toList 54 s.data.toList))] W fun e w' => e = .returned (.string (bsA (shaP (bsA (maskP (keyP key).data.toList 54 s.data.toList))))) ∧ Below W.heap.size W w') := Lib.hid (fun W hW => sum_any _ W (by
    rw [bsA_size, maskP_len _ _ _ (by have := keyP_size key; simpa using this)]
    have : s.data.toList.length = s.size := by simp
    omega) hW)
  have HM2 : Hid (∀ W, Calls Tryz.prog 178 #[.string (keyP key), .int .u8 92, .string (bsA (shaP (bsA (maskP (keyP key).data.toList 54 s.data.toList))))] W fun e w' => e = .returned (.string (bsA (maskP (keyP key).data.toList 92 (shaP (bsA (maskP (keyP key).data.toList 54 s.data.toList)))))) ∧ Below W.heap.size W w') := Lib.hid (fun W => mask_any (keyP key) _ 92 W (keyP_size key) (by rw [bsA_size, shaP_len]; decide))
  have HS2 : Hid (∀ W, ShaT W → Calls Tryz.prog 177 #[.string (bsA (maskP (keyP key).data.toList 92 (shaP (bsA (maskP (keyP key).data.toList 54 s.data.toList)))))] W fun e w' => e = .returned (strV (macP key s)) ∧ Below W.heap.size W w') := Lib.hid (fun W hW => sum_any _ W (by
    rw [bsA_size, maskP_len _ _ _ (by have := keyP_size key; simpa using this), shaP_len]
    decide) hW)
  have HK : Hid (∀ W, ShaT W → Calls Tryz.prog 177 #[.string key] W fun e w' => e = .returned (.string (bsA (shaP key))) ∧ Below W.heap.size W w') := Lib.hid (fun W hW => sum_any key W (by omega) hW)
  generalize bsA (maskP (keyP key).data.toList 54 s.data.toList) = x1 at HM HS HM2 HS2
  generalize bsA (shaP x1) = x2 at HS HM2 HS2
  generalize bsA (maskP (keyP key).data.toList 92 (shaP x1)) = x3 at HM2 HS2
  clear hT hs
  by_cases h : 64 < key.size
  · have hkey : Hid (keyP key = bsA (shaP key)) := Lib.hid (by unfold keyP; rw [if_pos h])
    rw [← hkey.out] at HK
    generalize keyP key = k1 at HM HM2 HK
    go_enter Tryz.func98, Tryz.ntmps98
    go_wp2_with fail
    refine (HK.out _ HT.out).mono ?_
    rintro e w1 ⟨rfl, hb1⟩
    have B1 := Lib.hid hb1
    clear hb1 h hk
    go_wp2_with fail
    refine (HM.out _).mono ?_
    rintro e w2 ⟨rfl, hb2⟩
    have B2 := Lib.hid (B1.out.trans (hb2.mono B1.out.size))
    clear hb2 B1
    go_wp2_with fail
    refine (HS.out _ (HT.out.below B2.out (Nat.le_refl _))).mono ?_
    rintro e w3 ⟨rfl, hb3⟩
    have B3 := Lib.hid (B2.out.trans (hb3.mono B2.out.size))
    clear hb3 B2
    go_wp2_with fail
    refine (HM2.out _).mono ?_
    rintro e w4 ⟨rfl, hb4⟩
    have B4 := Lib.hid (B3.out.trans (hb4.mono B3.out.size))
    clear hb4 B3
    go_wp2_with fail
    refine (HS2.out _ (HT.out.below B4.out (Nat.le_refl _))).mono ?_
    rintro e w5 ⟨rfl, hb5⟩
    go_wp2
    go_ret
    exact ⟨rfl, B4.out.trans (hb5.mono B4.out.size)⟩
  · have hkey : keyP key = key := by unfold keyP; rw [if_neg h]
    rw [hkey] at HM HM2
    have B1 := Lib.hid (Below.refl w.heap.size w)
    clear hkey HK
    go_enter Tryz.func98, Tryz.ntmps98
    go_wp2_with fail
    refine (HM.out _).mono ?_
    rintro e w2 ⟨rfl, hb2⟩
    have B2 := Lib.hid (B1.out.trans (hb2.mono B1.out.size))
    clear hb2 B1 h hk
    go_wp2_with fail
    refine (HS.out _ (HT.out.below B2.out (Nat.le_refl _))).mono ?_
    rintro e w3 ⟨rfl, hb3⟩
    have B3 := Lib.hid (B2.out.trans (hb3.mono B2.out.size))
    clear hb3 B2
    go_wp2_with fail
    refine (HM2.out _).mono ?_
    rintro e w4 ⟨rfl, hb4⟩
    have B4 := Lib.hid (B3.out.trans (hb4.mono B3.out.size))
    clear hb4 B3
    go_wp2_with fail
    refine (HS2.out _ (HT.out.below B4.out (Nat.le_refl _))).mono ?_
    rintro e w5 ⟨rfl, hb5⟩
    go_wp2
    go_ret
    exact ⟨rfl, B4.out.trans (hb5.mono B4.out.size)⟩

/-- differences of the first k bytes -/
def diffP (a b : ByteArray) : Nat → Int
  | 0 => 0
  | k + 1 => bits .or .u8 (diffP a b k) (bits .xor .u8 (byteI a k) (byteI b k))
def sameP (a b : ByteArray) : Bool := decide (a.size = b.size) && (diffP a b a.size == 0)
theorem diffP_range (a b : ByteArray) : ∀ k, 0 ≤ diffP a b k ∧ diffP a b k < 256
  | 0 => by unfold diffP; exact ⟨by decide, by decide⟩
  | _ + 1 => bits_u8 _ _ _

set_option maxHeartbeats 1000000 in
set_option maxRecDepth 100000 in
theorem same_any (a b : ByteArray) (w : World) (ha : a.size ≤ 1099511627776) :
    Calls Tryz.prog 373 #[.string a, .string b] w fun e w' => e = .returned (.bool (sameP a b)) ∧ Below w.heap.size w w' := by
  by_cases h : a.size = b.size
  · have HP : Hid (∀ n, n = a.size → sameP a b = (diffP a b n == 0)) := Lib.hid (fun n hn => by unfold sameP; rw [hn]; simp [h])
    have h2 : ((a.size : Int) != (b.size : Int)) = false := by simp [h]
    have hbs : b.size = a.size := h.symm
    have HBS := Lib.hid hbs
    clear h hbs
    go_enter Tryz.func373, Tryz.ntmps373
    go_wp2_with fail
    clear h2
    go_loopw [5, 14] (fun dv iv wr => ∃ k : Nat, k ≤ a.size ∧ iv = .int .i64 k ∧ dv = .int .u8 (diffP a b k) ∧ Hid (Below w.heap.size w wr)) (fun _ iv _ => a.size - (intOf iv).toNat)
    case atStart => exact ⟨0, Nat.zero_le _, rfl, rfl, Lib.hid (Below.refl _ _)⟩
    case round =>
      obtain ⟨k, hk, rfl, rfl, hb⟩ := hrel
      by_cases hlt : k < a.size
      · have i0 := fun w => run_idx (P := Tryz.prog) Tryz.underlying9 a (k : Int) k rfl hlt w
        have i1 := fun w => run_idx (P := Tryz.prog) Tryz.underlying9 b (k : Int) k rfl (by rw [HBS.out]; exact hlt) w
        have r0 := byteI_range a k
        have r1 := byteI_range b k
        have rd := diffP_range a b k
        have HK : Hid (bits .or .u8 (diffP a b k) (bits .xor .u8 (byteI a k) (byteI b k)) = diffP a b (k + 1)) := Lib.hid rfl
        generalize byteI a k = x at i0 r0 HK
        generalize byteI b k = y at i1 r1 HK
        generalize diffP a b k = d at rd HK ⊢
        obtain ⟨r00, r01⟩ := r0
        obtain ⟨r10, r11⟩ := r1
        obtain ⟨rd0, rd1⟩ := rd
        go_upto_region 7 with fail
        go_quiet (fail)
        clear i0 i1
        rw [HK.out]
        have HB := Lib.hid (below_drewN hb.out nq)
        go_wp2
        exact ⟨⟨k + 1, by omega, by go_num, rfl, HB⟩, by simp [intOf]; omega⟩
      · have hke : k = a.size := by omega
        have HPk := Lib.hid (HP.out k hke)
        clear HP
        generalize diffP a b k = d at HPk ⊢
        subst hke
        clear hk hlt
        go_wp2
        go_ret
        exact ⟨by rw [HPk.out]; rfl, hb.out⟩
  · have HP : Hid (sameP a b = false) := Lib.hid (by unfold sameP; simp [h])
    have h2 : ((a.size : Int) != (b.size : Int)) = true := by simp; omega
    have h3 : ((a.size : Int) ≠ (b.size : Int)) := by omega
    clear h
    go_enter Tryz.func373, Tryz.ntmps373
    go_wp2
    go_ret
    exact ⟨by rw [HP.out]; rfl, Below.refl _ _⟩
end Go.Proofs.YtomnljigoljldaaGreatDoor.SH


namespace Mailsack
/-- what is derived in round k -/
def drawK (ex info : ByteArray) : Nat → ByteArray
  | 0 => ⟨#[]⟩
  | k + 1 => bsA (macP ex (drawK ex info k ++ info ++ bsA [oct (k + 1)]))
/-- all that is derived in the first k rounds -/
def drawO (ex info : ByteArray) : Nat → Bs
  | 0 => []
  | k + 1 => drawO ex info k ++ (drawK ex info (k + 1)).data.toList
def drawP (secret salt info : ByteArray) (n : Nat) : Bs := (drawO (bsA (macP salt secret)) info ((n + 31) / 32)).take n
theorem drawK_size (ex info : ByteArray) (k : Nat) : (drawK ex info (k + 1)).size = 32 := by
  unfold drawK
  rw [bsA_size, macP_len]
theorem drawK_le (ex info : ByteArray) : ∀ k, (drawK ex info k).size ≤ 32
  | 0 => by unfold drawK; decide
  | k + 1 => by rw [drawK_size]; exact Nat.le_refl _
theorem drawO_len (ex info : ByteArray) : ∀ k, (drawO ex info k).length = 32 * k
  | 0 => rfl
  | k + 1 => by
    have h : (drawK ex info (k + 1)).data.toList.length = 32 := by
      have := drawK_size ex info k
      simpa using this
    unfold drawO
    rw [List.length_append, drawO_len ex info k, h]
    omega
theorem drawP_len (secret salt info : ByteArray) (n : Nat) : (drawP secret salt info n).length = n := by
  unfold drawP
  rw [List.length_take, drawO_len]
  omega
end Mailsack
namespace Go.Proofs.YtomnljigoljldaaGreatDoor.SH
open Go.RowKit Mailsack MM BB

theorem OwnY.at {w : World} {base : Nat} {v : Value} {l : Bs} (h : OwnY w base v l) (h0 : 0 < l.length) : ∃ g cap, v = .slice (some ⟨g, 0, none⟩) l.length cap ∧ l.length ≤ cap := by
  rcases h.2 with ⟨_, h2⟩ | ⟨g, cap, cur, h1, _, _, h2, _⟩
  · omega
  · exact ⟨g, cap, h1, h2⟩
theorem OwnY.part {w : World} {base g n cap : Nat} {l : Bs} (h : OwnY w base (.slice (some ⟨g, 0, none⟩) l.length cap) l) (hn : n ≤ l.length) : (convert 88 9 (.slice (some ⟨g, 0, none⟩) n cap)).run Tryz.prog w = .ok (strV (l.take n)) w := by
  have h1 := run_convert_bytes_back (P := Tryz.prog) w 88 9 5 ⟨g, 0, none⟩ cap (l.take n) Tryz.underlying88 Tryz.underlying5 Tryz.underlying9 (fun j hj => by
    have hj' : j < l.length := by rw [List.length_take] at hj; omega
    have := World.ownsRow.cells h (g := g) rfl j _ (by simp [hj']; rfl)
    rw [this, List.getElem_take])
  rw [List.length_take, Nat.min_eq_left hn] at h1
  exact h1
theorem conv_u8 (c : Int) (hc : 0 ≤ c) (hc2 : c < 256) (W : World) : (convert 88 9 (.slice (some ⟨W.heap.size, 0, none⟩) 1 1)).run Tryz.prog (W.alloc (.cells #[.int .u8 c] 5)) = .ok (.string (bsA [oct c])) (W.alloc (.cells #[.int .u8 c] 5)) := by
  refine run_convert_bytes_back (P := Tryz.prog) (W.alloc (.cells #[.int .u8 c] 5)) _ _ 5 ⟨W.heap.size, 0, none⟩ 1 [oct c] Tryz.underlying88 Tryz.underlying5 Tryz.underlying9 (fun j hj => ?_)
  have hj0 : j = 0 := by simpa using hj
  subst hj0
  have := cell_one_new W (.int .u8 c) 5 0 _ rfl
  rw [this]
  simp [oct_int]
  omega

set_option maxHeartbeats 1000000 in
set_option maxRecDepth 100000 in
theorem draw_any (secret salt info : ByteArray) (n : Nat) (w : World) (h1 : secret.size ≤ 1099511627776) (h2 : salt.size ≤ 1099511627776) (h3 : info.size ≤ 1000000) (hn : n ≤ 8160) (hT : ShaT w) :
    Calls Tryz.prog 53 #[.string secret, .string salt, .string info, .int .i64 n] w fun e w' => e = .returned (.tuple #[strV (drawP secret salt info n), .int .i64 0]) ∧ Below w.heap.size w w' := by
  have HT := Lib.hid hT
  have HE : Hid (∀ W, ShaT W → Calls Tryz.prog 98 #[.string salt, .string secret] W fun e w' => e = .returned (.string (bsA (macP salt secret))) ∧ Below W.heap.size W w') := Lib.hid (fun W hW => msum_any salt secret W h2 h1 hW)
  have HP : Hid (drawP secret salt info n = (drawO (bsA (macP salt secret)) info ((n + 31) / 32)).take n) := Lib.hid rfl
  have hex : (bsA (macP salt secret)).size = 32 := by rw [bsA_size, macP_len]
  have HX := Lib.hid hex
  generalize bsA (macP salt secret) = ex at HE HP hex HX
  have HMK := Lib.hid (fun W : World => made W 0 (n + 32) (by omega) (by omega))
  obtain ⟨i0, hi, hz0, hz1, hz2⟩ := info_row infoY
  have HN := Lib.hid hn
  clear hex h1 h2
  go_enter Tryz.func53, Tryz.ntmps53
  go_wp2_with fail
  refine (HE.out _ HT.out).mono ?_
  rintro e w1 ⟨rfl, hb1⟩
  have B1 := Lib.hid hb1
  clear hb1 HE
  have hmk : ∀ W : World, (Instr.makeSlice 88 (.int .i64 0) (.int .i64 ((n : Int) + 32))).run Tryz.prog W = .ok (.slice (some ⟨W.heap.size, 0, none⟩) 0 (n + 32)) (W.alloc (.cells (encB (zerosB (n + 32))) 5)) := HMK.out
  have HO0 := Lib.hid (OwnY.room w1 (n + 32) w.heap.size B1.out.size (by omega))
  have B2 := Lib.hid (B1.out.alloc B1.out.size (.cells (encB (zerosB (n + 32))) 5))
  go_wp2_with fail
  clear hmk HMK
  go_loopw [11, 12, 13] (fun ov lv cv wr => ∃ (k g cap : Nat), 32 * k < n + 32 ∧ ov = .slice (some ⟨g, 0, none⟩) (32 * k) cap ∧ 32 * k ≤ cap ∧ lv = .string (drawK ex info k) ∧ cv = .int .u8 (((k : Int) + 1) % 256) ∧ Hid (OwnY wr w.heap.size (.slice (some ⟨g, 0, none⟩) (32 * k) cap) (drawO ex info k)) ∧ Hid (Below w.heap.size w wr)) (fun ov _ _ _ => match ov with | .slice _ m _ => n + 32 - m | _ => 0)
  case atStart => exact ⟨0, w1.heap.size, n + 32, by omega, rfl, by omega, rfl, rfl, HO0, B2⟩
  case round =>
    obtain ⟨k, g, cap, hk, rfl, hcap, rfl, rfl, ho, hb⟩ := hrel
    clear HO0 B2
    by_cases hlt : 32 * k < n
    · have HKS : Hid (drawK ex info (k + 1) = bsA (macP ex (drawK ex info k ++ info ++ bsA [oct ((k : Int) + 1)]))) := Lib.hid rfl
      have HOS : Hid (drawO ex info (k + 1) = drawO ex info k ++ (drawK ex info (k + 1)).data.toList) := Lib.hid rfl
      have HKZ := Lib.hid (drawK_size ex info k)
      have hKl := drawK_le ex info k
      have HOL := Lib.hid (drawO_len ex info k)
      have hc : ((k : Int) + 1) % 256 = (k : Int) + 1 := by omega
      rw [hc]
      have hcv := conv_u8 ((k : Int) + 1) (by omega) (by omega)
      have hcb : (bsA [oct ((k : Int) + 1)]).size = 1 := by rw [bsA_size]; rfl
      generalize bsA [oct ((k : Int) + 1)] = cb at hcv HKS hcb
      have nb1 : ¬ (9223372036854775807 < (drawK ex info k).size + info.size) := by omega
      have nb2 : ¬ (9223372036854775807 < (drawK ex info k ++ info).size + cb.size) := by rw [ByteArray.size_append]; omega
      have HS : Hid (∀ W, ShaT W → Calls Tryz.prog 98 #[.string ex, .string (drawK ex info k ++ info ++ cb)] W fun e w' => e = .returned (.string (drawK ex info (k + 1))) ∧ Below W.heap.size W w') := Lib.hid (fun W hW => by
        rw [HKS.out]
        exact msum_any ex _ W (by rw [HX.out]; decide) (by rw [ByteArray.size_append, ByteArray.size_append]; omega) hW)
      have HKW := Lib.hid hlt
      generalize drawK ex info k = l0 at nb1 nb2 HS HKS ⊢
      obtain ⟨l1, hl1⟩ : ∃ l1, drawK ex info (k + 1) = l1 := ⟨_, rfl⟩
      rw [hl1] at HS HKS HKZ HOS
      have HL1 := Lib.hid hl1
      clear hl1
      generalize drawO ex info k = acc at ho HOS HOL
      clear hKl hcb h3 hn
      go_wp2_with fail
      refine (HS.out _ ((HT.out.below (hb.out.alloc hb.out.size (.cells #[.int .u8 ((k : Int) + 1)] 5)) (Nat.le_refl _)))).mono ?_
      rintro e w3 ⟨rfl, hb3⟩
      have HO3 := Lib.hid ((ho.out.alloc (.cells #[.int .u8 ((k : Int) + 1)] 5)).below hb3)
      have HB3 := Lib.hid ((hb.out.alloc hb.out.size (.cells #[.int .u8 ((k : Int) + 1)] 5)).trans (hb3.mono (hb.out.alloc hb.out.size (.cells #[.int .u8 ((k : Int) + 1)] 5)).size))
      clear hb3 nb1 nb2 hcv HS hb ho
      have HO2 : Hid (w3.ownsRow w.heap.size 5 1 (.slice (some ⟨g, 0, none⟩) (32 * k) cap) (32 * k) (acc.map fun c => Value.int .u8 (c.toNat : Int))) := Lib.hid (by have h := HO3.out.row; rw [HOL.out] at h; exact h)
      go_wp2_with (at_builtin; refine wpList_ownY rfl _ _ 88 9 rfl w.heap.size 5 i0 Tryz.underlying88 Tryz.underlying9 hi hz0 hz1 hz2 g (32 * k) cap _ rfl HO2.out l1 rfl (by have := HKZ.out; have := HN.out; have := HKW.out; unfold maxLen; omega) (by have := HKZ.out; have := HN.out; have := HKW.out; omega) HB3.out.size ?_; intro v4 w4 hown hgrow hloc; have h7 := Lib.hid (OwnY.of (l := acc) (m := l1.data.toList) (by rw [HOL.out, show l1.data.toList.length = l1.size by simp]; exact hown)); have h8 := Lib.hid (HB3.out.grown hgrow HB3.out.size (fun q hq => World.ownsRow.lt HO2.out q hq |>.1)); clear hown hgrow hloc)
      have hlen : (acc ++ l1.data.toList).length = 32 * (k + 1) := by
        rw [List.length_append, HOL.out, show l1.data.toList.length = l1.size by simp, HKZ.out]
        omega
      obtain ⟨g4, cap4, hv4, hcap4⟩ := OwnY.at h7.out (by rw [hlen]; omega)
      rw [hlen] at hv4 hcap4
      subst hv4
      exact ⟨⟨k + 1, g4, cap4, by omega, rfl, hcap4, by rw [HL1.out], by rw [show ((k : Int) + 1 + 1) = (((k + 1 : Nat) : Int) + 1) by omega], Lib.hid (by rw [HOS.out]; exact h7.out), h8⟩, by show n + 32 - 32 * (k + 1) < n + 32 - 32 * k; omega⟩
    · have HOL := Lib.hid (drawO_len ex info k)
      have HPk : Hid (drawP secret salt info n = (drawO ex info k).take n) := Lib.hid (by
        have hke : (n + 31) / 32 = k := by omega
        rw [HP.out, hke])
      clear HP
      generalize drawO ex info k = acc at ho HOL HPk
      have ht : (convert 88 9 (.slice (some ⟨g, 0, none⟩) n cap)).run Tryz.prog wr = .ok (strV (drawP secret salt info n)) wr := by
        rw [HPk.out]
        have h := ho.out
        rw [← HOL.out] at h
        exact OwnY.part h (by rw [HOL.out]; omega)
      go_wp2
      go_ret2
      exact ⟨rfl, hb.out⟩
end Go.Proofs.YtomnljigoljldaaGreatDoor.SH
