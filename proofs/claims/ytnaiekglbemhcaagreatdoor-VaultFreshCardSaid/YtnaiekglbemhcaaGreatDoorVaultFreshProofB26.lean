/- Contracts of functions of the program. Conditions: those that each theorem states. -/
import Derived.Test.YtnaiekglbemhcaaGreatDoorVaultFreshProofB25
import Derived.Test.YtnaiekglbemhcaaGreatDoorVaultFreshProofB10
import Derived.Lib.AppendStr
import Derived.Test.YtnaiekglbemhcaaGreatDoorVaultFreshProofB22
set_option maxHeartbeats 8000000
set_option maxRecDepth 100000
namespace Mailsack
def xS3 (ad text : ByteArray) : Bs := pE (pE ad.data.toList ++ text.data.toList) ++ wS ad.size 8 ++ wS text.size 8
def wM (key xD ad text : ByteArray) : ByteArray := tagP ((bsA (xDt key xD 0)).extract 0 32) (bsA (xS3 ad text))
theorem xBp (key xD ad text : ByteArray) : (wM key xD ad text).size = 16 := xT9 _ _
def wL (key xD ad s : ByteArray) : ByteArray := bsA (vF key xD 1 s) ++ wM key xD ad (bsA (vF key xD 1 s))
theorem tN (key xD ad s : ByteArray) : (wL key xD ad s).size = s.size + 16 := by rw [wL,ByteArray.size_append,xBp,yO,jZ]
theorem yAq (n : Nat) : xZe n < 16 := by unfold xZe; omega
theorem xDp (l : Bs) : (pE l).length ≤ l.length + 16 := by
 unfold pE
 rw [List.length_append,yT]
 have := yAq l.length
 omega
theorem xYx (ad text : ByteArray) : (xS3 ad text).length ≤ ad.size + text.size + 64 := by
 unfold xS3
 have h1 := xDp ad.data.toList
 have h2 := xDp (pE ad.data.toList ++ text.data.toList)
 have h3 : ad.data.toList.length = ad.size := by simp
 have h4 : text.data.toList.length = text.size := by simp
 rw [List.length_append] at h2
 rw [List.length_append,List.length_append,xCw,xCw]
 omega
end Mailsack
namespace Go.Proofs.SH
open Go.RowKit Mailsack MM BB
theorem xFs {P : Program} {w : World} {ops : Array Oper} {rest : List Oper} {o : Oper} {a : Act} {Q : Exit → Act → World → Prop} (hgd : o.guard = none) (sl x : Operand) (t u : TypeId)
  (ho : o.op = .call { callee := .builtin .append,args := #[sl,x],argTypes := #[t,u] })
  (base : Nat) (e : TypeId) (i : TypeInfo) (ht : P.underlying t = some (.slice e)) (hu : P.underlying u = some .string) (hi : P.info? e = some i) (hz : i.zero = some (.int .u8 0))
  (hsize : i.size = 1) (hby : i.bytes = 1)
  (v : Value) (n : Nat) (xs : List Value) (hs : a.eval sl = v) (hown : w.ownsRow base e 1 v n xs) (s : ByteArray) (hx : a.eval x = .string s)
  (h63 : n + s.size ≤ maxLen) (hbytes : n + s.size ≤ 140737488355328) (hbase : base ≤ w.heap.size)
  (h : ∀ v' w',w'.ownsRow base e 1 v' (n + s.size) (xs ++ Lib.strCells s) → w.grownBy w' v.ownBlock → wpList P ops Q rest (a.put o.dst v') w') : wpList P ops Q (o :: rest) a w := by
 refine wpList_plain hgd fun K hK => ?_
 obtain ⟨v',w',hr,h2,h3,_⟩ := Lib.run_append_own_string (P := P) w base t u o.type e i ht hu hi hz hsize hby v n xs hown s h63 hbytes hbase
 unfold Oper.wp execOp
 simp only [ho,resolve,invoke,builtin,Sem.run_bind,Sem.run_pure,Result.andThen_ok,List.map_toArray,List.map_cons,List.map_nil,hs,hx,hr]
 exact hK _ _ (h v' w' h2 h3)
theorem xT8 (key xD ad text : ByteArray) (w : World) (hk : key.size = 32) (hn : xD.size = 12) (ha : ad.size ≤ 1000000000) (ht : text.size ≤ 1000000000) :
  Calls Tryz.prog 117 #[.string key,.string xD,.string ad,.string text] w fun e w' => e = .returned (.tuple #[.string (wM key xD ad text),.bool true]) ∧ Below w.heap.size w w' := by
 obtain ⟨i0,hi,hz0,hz1,hz2⟩ := wH xRf
 have HC := hI' (xNz key xD 0 w hk hn ⟨by decide,by decide⟩)
 have hsz : (bsA (xDt key xD 0)).size = 64 := by rw [yO]; exact xCd _
 have HT : Hid (∀ W,Calls Tryz.prog 165 #[.string ((bsA (xDt key xD 0)).extract 0 32),.string (bsA (xS3 ad text))] W fun e w' => e = .returned (.tuple #[.string (wM key xD ad text),.bool true]) ∧ Below W.heap.size W w') := hI' (fun W => yAb _ _ W (by rw [ByteArray.size_extract,hsz]; rfl) (by rw [yO]; have := xYx ad text; omega))
 generalize bsA (xDt key xD 0) = ks at HC HT hsz
 have hD : Hid (xS3 ad text = pE (pE ad.data.toList ++ text.data.toList) ++ wS ad.size 8 ++ wS text.size 8) := hI' rfl
 have hL1 := xDp ad.data.toList
 have hL2 := xDp (pE ad.data.toList ++ text.data.toList)
 have hal : ad.data.toList.length = ad.size := by simp
 have htl : text.data.toList.length = text.size := by simp
 rw [List.length_append] at hL2
 have HMK := hI' (fun W : World => made W 0 (ad.size + text.size + 48) (by omega) (by omega))
 have HLS : Hid (ad.size ≤ 1000000000 ∧ text.size ≤ 1000000000 ∧ (pE ad.data.toList).length ≤ 2000000000 ∧ (pE (pE ad.data.toList ++ text.data.toList)).length ≤ 4000000000) := hI' ⟨ha,ht,by omega,by omega⟩
 generalize wM key xD ad text = res at HT ⊢
 generalize xS3 ad text = dd at HT hD
 clear hL1 hL2 hk hn
 go_enter Tryz.func117,Tryz.ntmps117
 go_wp2_with fail
 refine HC.out.mono ?_
 rintro e w1 ⟨rfl,hb1⟩
 have B1 := hI' hb1
 clear hb1 HC
 have hmk : ∀ W : World,(Instr.makeSlice 113 (.int .i64 0) (.int .i64 ((ad.size : Int) + (text.size : Int) + 48))).run Tryz.prog W = .ok (.slice (some ⟨W.heap.size,0,none⟩) 0 (ad.size + text.size + 48)) (W.alloc (.cells (yJ (xQ (ad.size + text.size + 48))) 5)) := HMK.out
 have HO0 := hI' (uP.room w1 (ad.size + text.size + 48) w.heap.size B1.out.size (by omega))
 have B2 := hI' (B1.out.alloc B1.out.size (.cells (yJ (xQ (ad.size + text.size + 48))) 5))
 go_upto_region 5 with fail
 clear hmk HMK
 refine (fun (h : ∀ W3,Hid (uP W3 w.heap.size (.slice (some ⟨w1.heap.size,0,none⟩) 0 (ad.size + text.size + 48)) [] ∧ Below w.heap.size w W3) → Code.wp _ _ _ _ W3) => h _ (hI' ⟨HO0.out,B2.out⟩)) ?_
 clear HO0 B2 B1
 generalize w1.heap.size = g
 intro W2 H2
 refine wp_region_lit ?_
 iterate 6 go_step
 refine xFs rfl _ _ 113 9 rfl w.heap.size 5 i0 Tryz.underlying113 Tryz.underlying9 hi hz0 hz1 hz2 _ 0 [] rfl H2.out.1 ad rfl (by unfold maxLen; omega) (by omega) H2.out.2.size ?_
 intro v3 w3 hown hgrow
 have HO3 : Hid (uP w3 w.heap.size v3 ad.data.toList) := hI' (by
  have h := uP.of (l := []) (m := ad.data.toList) (by rw [hal]; exact hown)
  exact h)
 have HB3 := hI' (H2.out.2.grown hgrow H2.out.2.size (fun k hk => (World.ownsRow.lt H2.out.1 k hk).1))
 have HA3 := hI' (xLy v3 ad.data.toList w3 w.heap.size HO3.out HB3.out.size (by omega))
 clear hown hgrow H2
 repeat go_step
 refine HA3.out.mono ?_
 rintro e w4 ⟨v4,rfl,ho4,hx4⟩
 have HO4 := hI' ho4
 have HB4 := hI' (HB3.out.trans (hx4.below HO3.out HB3.out.size))
 clear ho4 hx4 HA3 HO3 HB3
 go_upto_region 6 with fail
 refine wp_region_lit ?_
 iterate 6 go_step
 refine xFs rfl _ _ 113 9 rfl w.heap.size 5 i0 Tryz.underlying113 Tryz.underlying9 hi hz0 hz1 hz2 v4 _ _ rfl HO4.out.row text rfl (by have := HLS.out; unfold maxLen; omega) (by have := HLS.out; omega) HB4.out.size ?_
 intro v5 w5 hown hgrow
 have HO5 : Hid (uP w5 w.heap.size v5 (pE ad.data.toList ++ text.data.toList)) := hI' (uP.of (by rw [htl]; exact hown))
 have HB5 := hI' (HB4.out.grown hgrow HB4.out.size (fun k hk => (World.ownsRow.lt HO4.out.row k hk).1))
 have HA5 := hI' (xLy v5 _ w5 w.heap.size HO5.out HB5.out.size (by rw [List.length_append,htl]; have := HLS.out; omega))
 clear hown hgrow HO4 HB4
 repeat go_step
 refine HA5.out.mono ?_
 rintro e w6 ⟨v6,rfl,ho6,hx6⟩
 have HO6 := hI' ho6
 have HB6 := hI' (HB5.out.trans (hx6.below HO5.out HB5.out.size))
 clear ho6 hx6 HA5 HO5 HB5
 have HS6 := hI' (xOf ad.size v6 _ w6 w.heap.size HO6.out HB6.out.size (by have := HLS.out; omega))
 go_wp2_with fail
 refine HS6.out.mono ?_
 rintro e w7 ⟨v7,rfl,ho7,hx7⟩
 have HO7 := hI' ho7
 have HB7 := hI' (HB6.out.trans (hx7.below HO6.out HB6.out.size))
 clear ho7 hx7 HS6 HO6 HB6
 have HS7 := hI' (xOf text.size v7 _ w7 w.heap.size HO7.out HB7.out.size (by rw [List.length_append,xCw]; have := HLS.out; omega))
 go_wp2_with fail
 refine HS7.out.mono ?_
 rintro e w8 ⟨v8,rfl,ho8,hx8⟩
 have HO8 := hI' ho8
 have HB8 := hI' (HB7.out.trans (hx8.below HO7.out HB7.out.size))
 clear ho8 hx8 HS7 HO7 HB7
 rw [← hD.out] at HO8
 have hszi : (ks.size : Int) = 64 := by omega
 clear hsz
 go_upto_region 9 with fail
 refine RG.xR (fun W => Hid (uP W w.heap.size v8 dd ∧ Below w.heap.size w W)) (by kernel_rfl) (by kernel_rfl) (hI' ⟨HO8.out.drew,HB8.out.drew⟩) ?_
 clear HO8 HB8
 iterate 3
  apply RG.xC
  ·intro w9 hw9
   repeat go_step
   with_reducible exact RG.xB hw9
  ·rfl
 apply RG.xC
 ·intro w9 hw9
  have q : (convert 113 9 v8).run Tryz.prog w9 = .ok (.string (bsA dd)) w9 := hw9.out.1.text
  repeat go_step
  with_reducible exact RG.xB hw9
 ·rfl
 apply RG.xC
 ·intro w9 hw9
  repeat go_step
  refine (HT.out _).mono ?_
  rintro e w10 ⟨rfl,yA⟩
  simp only []
  repeat go_step
  with_reducible refine RG.xB ?_
  exact hI' ⟨uP.below hw9.out.1 yA,hw9.out.2.trans (yA.mono hw9.out.2.size)⟩
 ·rfl
 iterate 4
  apply RG.xC
  ·intro w9 hw9
   repeat go_step
   with_reducible exact RG.xB hw9
  ·rfl
 refine RG.xW (fun w9 hw9 => ?_)
 go_wp2
 go_ret2
 exact ⟨rfl,hw9.out.2⟩
theorem xTf (key xD ad s : ByteArray) (w : World) (hk : key.size = 32) (hn : xD.size = 12) (ha : ad.size ≤ 1000000000) (hs : s.size ≤ 1000000000) :
  Calls Tryz.prog 74 #[.string key,.string xD,.string ad,.string s] w fun e w' => e = .returned (.tuple #[.string (wL key xD ad s),.int .i64 0]) ∧ Below w.heap.size w w' := by
 have HC := hI' (xEk key xD 1 s w hk hn ⟨by decide,by decide⟩ (by omega))
 have hcz : (bsA (vF key xD 1 s)).size = s.size := by rw [yO,jZ]
 have HT := hI' (fun W => xT8 key xD ad (bsA (vF key xD 1 s)) W hk hn ha (by rw [hcz]; exact hs))
 have htz := xBp key xD ad (bsA (vF key xD 1 s))
 have HE : Hid (wL key xD ad s = bsA (vF key xD 1 s) ++ wM key xD ad (bsA (vF key xD 1 s))) := hI' rfl
 generalize wM key xD ad (bsA (vF key xD 1 s)) = tg at HT htz HE
 generalize bsA (vF key xD 1 s) = ct at HC HT hcz HE
 have nb : ¬ (9223372036854775807 < ct.size + tg.size) := by omega
 clear hk hn hcz htz
 go_enter Tryz.func74,Tryz.ntmps74
 go_wp2_with fail
 refine HC.out.mono ?_
 rintro e w1 ⟨rfl,hb1⟩
 have B1 := hI' hb1
 clear hb1 HC
 go_wp2_with fail
 refine (HT.out _).mono ?_
 rintro e w2 ⟨rfl,hb2⟩
 have B2 := hI' (B1.out.trans (hb2.mono B1.out.size))
 clear hb2 HT B1
 go_wp2
 go_ret2
 rw [HE.out]
 exact ⟨rfl,B2.out⟩
theorem xR0 (key xD ad box : ByteArray) (w : World) (hk : key.size = 32) (hn : xD.size = 12) (hb : box.size < 16) :
  Calls Tryz.prog 79 #[.string key,.string xD,.string ad,.string box] w fun e w' => e = .returned (.tuple #[.string ⟨#[]⟩,.int .i64 7]) ∧ w' = w := by
 have hki : (key.size : Int) = 32 := by omega
 have hni : (xD.size : Int) = 12 := by omega
 have hbi : (box.size : Int) < 16 := by omega
 clear hk hn hb
 go_enter Tryz.func79,Tryz.ntmps79
 go_wp2
 go_ret2
 exact ⟨rfl,rfl⟩
theorem xJc (key xD ad text given : ByteArray) (w : World) (hk : key.size = 32) (hn : xD.size = 12) (ha : ad.size ≤ 1000000000) (ht : text.size ≤ 1000000000) (hg : given.size = 16) (hs : rA (wM key xD ad text) given = true) :
  Calls Tryz.prog 79 #[.string key,.string xD,.string ad,.string (text ++ given)] w fun e w' => e = .returned (.tuple #[.string (bsA (vF key xD 1 text)),.int .i64 0]) ∧ Below w.heap.size w w' := by
 have HC := hI' (fun W => xEk key xD 1 text W hk hn ⟨by decide,by decide⟩ (by omega))
 have HT := hI' (fun W => xT8 key xD ad text W hk hn ha ht)
 have htz := xBp key xD ad text
 have HM := hI' (fun W => xCy (wM key xD ad text) given W (by rw [htz]; decide))
 rw [hs] at HM
 generalize wM key xD ad text = tg at HT htz HM
 clear hs
 generalize bsA (vF key xD 1 text) = pt at HC ⊢
 have hki : (key.size : Int) = 32 := by omega
 have hni : (xD.size : Int) = 12 := by omega
 have hbs : (text ++ given).size = text.size + 16 := by rw [ByteArray.size_append,hg]
 have hx1 : (text ++ given).extract 0 text.size = text := by rw [ByteArray.extract_append_eq_left rfl]
 have hx2 : (text ++ given).extract text.size (text.size + 16) = given := by rw [← hg]; rw [ByteArray.extract_append_eq_right rfl rfl]
 generalize text ++ given = box at hbs hx1 hx2 ⊢
 obtain ⟨n,hnn⟩ : ∃ n,text.size = n := ⟨_,rfl⟩
 rw [hnn] at hbs hx1 hx2
 have hbi : (box.size : Int) = (n : Int) + 16 := by omega
 have h16 : ¬ ((n : Int) + 16 < 16) := by omega
 clear hk hn htz hg
 go_enter Tryz.func79,Tryz.ntmps79
 go_upto_region 5 with fail
 refine RG.xR (fun W => Hid (Below w.heap.size w W)) (by kernel_rfl) (by kernel_rfl) (hI' (Below.refl w.heap.size w).drew) ?_
 iterate 12
  apply RG.xC
  ·intro w9 hw9
   repeat go_step
   with_reducible exact RG.xB hw9
  ·rfl
 refine RG.xW (fun w1 hw1 => ?_)
 clear h16 hbi hbs hki hni
 go_wp2_with fail
 refine (HT.out _).mono ?_
 rintro e w2 ⟨rfl,hb2⟩
 have B2 := hI' (hw1.out.trans (hb2.mono hw1.out.size))
 clear hb2 HT hw1
 go_wp2_with fail
 refine (HM.out _).mono ?_
 rintro e w3 ⟨rfl,hb3⟩
 have B3 := hI' (B2.out.trans (hb3.mono B2.out.size))
 clear hb3 HM B2
 go_wp2_with fail
 refine (HC.out _).mono ?_
 rintro e w4 ⟨rfl,hb4⟩
 have B4 := hI' (B3.out.trans (hb4.mono B3.out.size))
 clear hb4 HC B3
 go_wp2
 go_ret2
 exact ⟨rfl,B4.out⟩
theorem xN1 (key xD ad text given : ByteArray) (w : World) (hk : key.size = 32) (hn : xD.size = 12) (ha : ad.size ≤ 1000000000) (ht : text.size ≤ 1000000000) (hg : given.size = 16) (hs : rA (wM key xD ad text) given = false) :
  Calls Tryz.prog 79 #[.string key,.string xD,.string ad,.string (text ++ given)] w fun e w' => e = .returned (.tuple #[.string ⟨#[]⟩,.int .i64 7]) ∧ Below w.heap.size w w' := by
 have HC := hI' (fun W => xEk key xD 1 text W hk hn ⟨by decide,by decide⟩ (by omega))
 have HT := hI' (fun W => xT8 key xD ad text W hk hn ha ht)
 have htz := xBp key xD ad text
 have HM := hI' (fun W => xCy (wM key xD ad text) given W (by rw [htz]; decide))
 rw [hs] at HM
 generalize wM key xD ad text = tg at HT htz HM
 clear hs
 generalize bsA (vF key xD 1 text) = pt at HC
 have hki : (key.size : Int) = 32 := by omega
 have hni : (xD.size : Int) = 12 := by omega
 have hbs : (text ++ given).size = text.size + 16 := by rw [ByteArray.size_append,hg]
 have hx1 : (text ++ given).extract 0 text.size = text := by rw [ByteArray.extract_append_eq_left rfl]
 have hx2 : (text ++ given).extract text.size (text.size + 16) = given := by rw [← hg]; rw [ByteArray.extract_append_eq_right rfl rfl]
 generalize text ++ given = box at hbs hx1 hx2 ⊢
 obtain ⟨n,hnn⟩ : ∃ n,text.size = n := ⟨_,rfl⟩
 rw [hnn] at hbs hx1 hx2
 have hbi : (box.size : Int) = (n : Int) + 16 := by omega
 have h16 : ¬ ((n : Int) + 16 < 16) := by omega
 clear hk hn htz hg
 go_enter Tryz.func79,Tryz.ntmps79
 go_upto_region 5 with fail
 refine RG.xR (fun W => Hid (Below w.heap.size w W)) (by kernel_rfl) (by kernel_rfl) (hI' (Below.refl w.heap.size w).drew) ?_
 iterate 12
  apply RG.xC
  ·intro w9 hw9
   repeat go_step
   with_reducible exact RG.xB hw9
  ·rfl
 refine RG.xW (fun w1 hw1 => ?_)
 clear h16 hbi hbs hki hni
 go_wp2_with fail
 refine (HT.out _).mono ?_
 rintro e w2 ⟨rfl,hb2⟩
 have B2 := hI' (hw1.out.trans (hb2.mono hw1.out.size))
 clear hb2 HT hw1
 go_wp2_with fail
 refine (HM.out _).mono ?_
 rintro e w3 ⟨rfl,hb3⟩
 have B3 := hI' (B2.out.trans (hb3.mono B2.out.size))
 clear hb3 HM B2
 clear HC
 go_wp2
 go_ret2
 exact ⟨rfl,B3.out⟩
end Go.Proofs.SH
namespace Mailsack
theorem xEe {ws : List Int} (h : ws.length = 5) : ∃ a b c d e,ws = [a,b,c,d,e] := by
 match ws,h with
 | [a,b,c,d,e],_ => exact ⟨a,b,c,d,e,rfl⟩
def nar (a b : Int) : Int := Go.IntKind.u64.wrap (Go.bits .and .u64 a 2251799813685247 + b / 2251799813685248)
def nar0 (a b : Int) : Int := Go.IntKind.u64.wrap (Go.bits .and .u64 a 2251799813685247 + 19 * (b / 2251799813685248))
def zR (l : List Int) : List Int := [nar0 (l.getD 0 0) (l.getD 4 0),nar (l.getD 1 0) (l.getD 0 0),nar (l.getD 2 0) (l.getD 1 0),nar (l.getD 3 0) (l.getD 2 0),nar (l.getD 4 0) (l.getD 3 0)]
theorem zN (l : List Int) : (zR l).length = 5 := rfl
theorem xDn {a b c d e : Int} (ha : U64 a) (hb : U64 b) (hc : U64 c) (hd : U64 d) (he : U64 e) : yV [a,b,c,d,e] := L5.all (l := ⟨a,b,c,d,e⟩) ⟨ha,hb,hc,hd,he⟩
theorem wX (l : List Int) : yV (zR l) := xDn (wrap_u64 _) (wrap_u64 _) (wrap_u64 _) (wrap_u64 _) (wrap_u64 _)
end Mailsack
namespace Go.Proofs.FE
open Go.RowKit Mailsack MM BB SH
def uY (t : TypeId) (W : World) (g : Nat) (ws : List Int) : Prop := W.heap[g]? = some (.cells (xG ws) t (0,0))
theorem uY.blk {t : TypeId} {W : World} {g : Nat} {ws : List Int} (h : uY t W g ws) : W.heap[g]? = some (.cells (xG ws) t (0,0)) := h
theorem uY.put {t : TypeId} {W : World} {g : Nat} {ws : List Int} (h : uY t W g ws) (i : Nat) (x : Int) : uY t (W.setCell ⟨g,i,none⟩ (.int .u64 x)) g (ws.set i x) := by
 have := yB h.blk i (.int .u64 x)
 rw [xPp] at this
 exact this
theorem uY.far {t : TypeId} {W : World} {g : Nat} {ws : List Int} (h : uY t W g ws) {p : Addr} (hp : g ≠ p.block) (u : Value) : uY t (W.setCell p u) g ws := xZ h.blk hp u
theorem uY.cell {t : TypeId} {W : World} {g : Nat} {ws : List Int} (h : uY t W g ws) {i : Nat} (hi : i < ws.length) : W.cell? ⟨g,i,none⟩ = some (.int .u64 (ws.getD i 0)) := by rw [xA h.blk,xBm hi]
theorem uY.free {t : TypeId} {W : World} {g : Nat} {ws : List Int} (h : uY t W g ws) (i : Nat) : W.frozen? ⟨g,i,none⟩ = false := xK h.blk i
theorem uY.below {t : TypeId} {W W' : World} {g : Nat} {ws : List Int} (h : uY t W g ws) (hb : Below W.heap.size W W') : uY t W' g ws := xE h.blk hb (xI h.blk)
theorem wO (ws : List Int) (w : World) (hl : ws.length = 5) (hu : yV ws) :
  Calls Tryz.prog 194 #[.agg (xG ws)] w fun e w' => e = .returned (.agg (xG (zR ws))) ∧ Below w.heap.size w w' := by
 obtain ⟨a,b,c,d,e,rfl⟩ := xEe hl
 have ha := hu 0
 have hb := hu 1
 have hc := hu 2
 have hd := hu 3
 have he := hu 4
 simp only [List.getD_cons_zero,List.getD_cons_succ] at ha hb hc hd he
 obtain ⟨a0,a1⟩ := ha
 obtain ⟨b0,b1⟩ := hb
 obtain ⟨c0,c1⟩ := hc
 obtain ⟨d0,d1⟩ := hd
 obtain ⟨e0,e1⟩ := he
 clear hl hu
 show Calls Tryz.prog 194 #[.agg #[.int .u64 a,.int .u64 b,.int .u64 c,.int .u64 d,.int .u64 e]] w _
 go_enter Tryz.func194,Tryz.ntmps194
 go_wp2
 refine bodyPost_ret (results_cell_row rfl _ _ (w.heap.size + 1) _ _ (0,0) _ rfl (zM _ _ _) Tryz.underlying210 rfl (show (Tryz.prog.info? 210).map (·.size) = some 5 by kernel_rfl)) rfl ?_
 exact ⟨rfl,((Below.refl w.heap.size w).alloc (Nat.le_refl _) _).alloc (by simp) _⟩
end Go.Proofs.FE
namespace Mailsack
def xHj (a b : List Int) : List Int := zR (wJ (zR a) (zR b) 5)
def xKj (a b : List Int) : Nat → List Int
 | 0 => a.set 0 (Go.IntKind.u64.wrap (a.getD 0 0 + Go.IntKind.u64.wrap (4503599627370458 - b.getD 0 0)))
 | i + 1 => (xKj a b i).set (i + 1) (Go.IntKind.u64.wrap ((xKj a b i).getD (i + 1) 0 + Go.IntKind.u64.wrap (4503599627370494 - b.getD (i + 1) 0)))
theorem xOd (a b : List Int) : ∀ i,(xKj a b i).length = a.length
 | 0 => by rw [xKj,List.length_set]
 | i + 1 => by rw [xKj,List.length_set,xOd a b i]
theorem xZ7 {a : List Int} (b : List Int) (h : yV a) : ∀ i,yV (xKj a b i)
 | 0 => h.set 0 (wrap_u64 _)
 | i + 1 => (xZ7 b h i).set (i + 1) (wrap_u64 _)
def xHh (a b : List Int) : List Int := zR (xKj (zR a) (zR b) 4)
theorem xVq (a b : List Int) : (xHj a b).length = 5 := rfl
theorem xVm (a b : List Int) : (xHh a b).length = 5 := rfl
theorem yBw (a b : List Int) : yV (xHj a b) := wX _
theorem yBu (a b : List Int) : yV (xHh a b) := wX _
end Mailsack
namespace Go.Proofs.FE
open Go.RowKit Mailsack MM BB SH
theorem uN {ws : List Int} (h : ws.length = 5) : (Tryz.prog.info? 210).map (·.size) = some (xG ws).size := by rw [xV,h]; kernel_rfl
theorem xAq {xs ys : List Int} (h : xs.length = 5) (h2 : ys.length = 5) : (xG xs).size = (xG ys).size := by rw [xV,xV,h,h2]
structure wD (w : World) (ax bx : List Int) (W : World) : Prop where
 ba : uY 210 W w.heap.size ax
 bb : uY 210 W (w.heap.size + 1) bx
 bz : uY 210 W (w.heap.size + 2) (List.replicate 5 0)
 bel : Below w.heap.size w W
section
variable {w W W' : World} {ax bx : List Int}
theorem wD.start (ax bx : List Int) : wD w ax bx (((w.alloc (.cells (xG ax) 210)).alloc (.cells (xG bx) 210)).alloc (.cells (xG (List.replicate 5 0)) 210)) :=
 ⟨xP (zQ _ _ _) _,xP (zM _ _ _) _,by have h := xM ((w.alloc (.cells (xG ax) 210)).alloc (.cells (xG bx) 210)) (.cells (xG (List.replicate 5 0)) 210); rw [show ((w.alloc (.cells (xG ax) 210)).alloc (.cells (xG bx) 210)).heap.size = w.heap.size + 2 by simp] at h; exact h,(((Below.refl w.heap.size w).alloc (Nat.le_refl _) _).alloc (by simp) _).alloc (by simp; omega) _⟩
theorem wD.below (h : wD w ax bx W) (hb : Below W.heap.size W W') : wD w ax bx W' :=
 ⟨h.ba.below hb,h.bb.below hb,h.bz.below hb,h.bel.trans (hb.mono h.bel.size)⟩
theorem wD.drew (h : wD w ax bx W) : wD w ax bx W.drew := ⟨h.ba,h.bb,h.bz,h.bel.drew⟩
theorem wD.put (h : wD w ax bx W) (i : Nat) (x : Int) : wD w (ax.set i x) bx (W.setCell ⟨w.heap.size,i,none⟩ (.int .u64 x)) :=
 ⟨h.ba.put i x,h.bb.far (p := ⟨w.heap.size,i,none⟩) (by simp) _,h.bz.far (p := ⟨w.heap.size,i,none⟩) (by simp) _,h.bel.setCell (p := ⟨w.heap.size,i,none⟩) (Nat.le_refl _) _⟩
theorem wD.rowA (h : wD w ax bx W) (xs : List Int) : wD w xs bx (W.setRow w.heap.size (xG xs)) :=
 ⟨setRow_heap _ _ _ _ _ _ h.ba,(setRow_other _ _ _ _ (by omega)).trans h.bb,(setRow_other _ _ _ _ (by omega)).trans h.bz,below_setRow h.bel (Nat.le_refl _) _⟩
theorem wD.rowB (h : wD w ax bx W) (xs : List Int) : wD w ax xs (W.setRow (w.heap.size + 1) (xG xs)) :=
 ⟨(setRow_other _ _ _ _ (by omega)).trans h.ba,setRow_heap _ _ _ _ _ _ h.bb,(setRow_other _ _ _ _ (by omega)).trans h.bz,below_setRow h.bel (by omega) _⟩
end
theorem yC6 (ax bx : List Int) (w : World) (hl : ax.length = 5) (hu : yV ax) (hl2 : bx.length = 5) (hu2 : yV bx) :
  Calls Tryz.prog 190 #[.agg (xG ax),.agg (xG bx)] w fun e w' => e = .returned (.agg (xG (xHj ax bx))) ∧ Below w.heap.size w w' := by
 have HNa := hI' (fun W => wO ax W hl hu)
 have HNb := hI' (fun W => wO bx W hl2 hu2)
 have HIa := hI' (uN hl)
 have HIb := hI' (uN hl2)
 have xZ3 := hI' (uN (zN ax))
 have xZ2 := hI' (uN (zN bx))
 have HZa := hI' (xAq hl (zN ax))
 have HZb := hI' (xAq hl2 (zN bx))
 have hna := zN ax
 have hnb := zN bx
 have hua := wX ax
 have hub := wX bx
 have H0 := hI' (wD.start (w := w) ax bx)
 have HR : Hid (∀ n,n = 5 → xHj ax bx = zR (wJ (zR ax) (zR bx) n)) := hI' (fun n hn => by rw [hn]; rfl)
 obtain ⟨res,hres⟩ : ∃ x,xHj ax bx = x := ⟨_,rfl⟩
 have hrl : res.length = 5 := by rw [← hres]; rfl
 rw [hres] at HR ⊢
 clear hres hl hu hl2 hu2
 generalize zR ax = na at HNa xZ3 HZa hna hua HR
 generalize zR bx = nb at HNb xZ2 HZb hnb hub HR
 go_enter Tryz.func190,Tryz.ntmps190
 go_upto_region 1 with fail
 refine (fun (h : ∀ W3,Hid (wD w ax bx W3) → Code.wp _ _ _ _ W3) => h _ H0) ?_
 clear H0
 intro W0 H0
 refine RG.yN 6 (fun L W => Hid (wD w (if L 4 then na else ax) (if L 5 then nb else bx) W)) (fun L L' W h hI => by rw [← h 4 (by decide),← h 5 (by decide)]; exact hI) (by kernel_rfl) (by kernel_rfl) rfl (hI' H0.out.drew) ?_
 clear H0
 apply RG.xJ
 ·rfl
 ·rfl
 ·intro L w9 h0 hcl xH hw9
  have e1 := hcl.not 6 (i := 4) h0 (by kernel_rfl)
  have hs9 := hw9.out.ba
  rw [e1,if_neg (by simp)] at hs9
  refine wpList_load_row rfl _ _ rfl w.heap.size rfl _ (xG ax) (0,0) _ hs9 Tryz.underlying210 rfl HIa.out ?_
  repeat go_step
  with_reducible refine RG.xB ?_
  exact ⟨xH,hw9⟩
 ·rfl
 apply RG.xJ
 ·rfl
 ·rfl
 ·intro L w9 h0 hcl xH hw9
  repeat go_step
  refine (HNa.out _).mono ?_
  rintro e w10 ⟨rfl,yA⟩
  simp only []
  repeat go_step
  with_reducible refine RG.xB ?_
  exact ⟨xH,hI' (hw9.out.below yA)⟩
 ·rfl
 apply RG.xJ
 ·rfl
 ·rfl
 ·intro L w9 h0 hcl xH hw9
  have e1 := hcl.not 6 (i := 5) h0 (by kernel_rfl)
  have hs9 := hw9.out.bb
  rw [e1,if_neg (by simp)] at hs9
  refine wpList_load_row rfl _ _ rfl (w.heap.size + 1) rfl _ (xG bx) (0,0) _ hs9 Tryz.underlying210 rfl HIb.out ?_
  repeat go_step
  with_reducible refine RG.xB ?_
  exact ⟨xH,hw9⟩
 ·rfl
 apply RG.xJ
 ·rfl
 ·rfl
 ·intro L w9 h0 hcl xH hw9
  repeat go_step
  refine (HNb.out _).mono ?_
  rintro e w10 ⟨rfl,yA⟩
  simp only []
  repeat go_step
  with_reducible refine RG.xB ?_
  exact ⟨xH,hI' (hw9.out.below yA)⟩
 ·rfl
 apply RG.xJ
 ·rfl
 ·rfl
 ·intro L w9 h0 hcl xH hw9
  have hs9 := hw9.out
  rw [h0,if_neg (by simp)] at hs9
  refine wpList_store_row rfl _ _ _ rfl w.heap.size (xG na) rfl rfl _ _ hs9.ba xZ3.out HZa.out (xS _) ?_
  repeat go_step
  with_reducible refine RG.xB ?_
  exact ⟨xH,hI' (hs9.rowA na)⟩
 ·rfl
 apply RG.xJ
 ·rfl
 ·rfl
 ·intro L w9 h0 hcl xH hw9
  have hs9 := hw9.out
  rw [h0,if_neg (c := false = true) (by simp)] at hs9
  refine wpList_store_row rfl _ _ _ rfl (w.heap.size + 1) (xG nb) rfl rfl _ _ hs9.bb xZ2.out HZb.out (xS _) ?_
  repeat go_step
  with_reducible refine RG.xB ?_
  exact ⟨xH,hI' (hs9.rowB nb)⟩
 ·rfl
 refine RG.yP (fun w9 hw9 => ?_)
 rw [if_pos rfl,if_pos rfl] at hw9
 go_wp2_with fail
 go_loopw [10] (fun iv W => ∃ i : Nat,i ≤ 5 ∧ iv = .int .i64 i ∧ Hid (wD w (wJ na nb i) nb W)) (fun iv _ => 5 - (intOf iv).toNat)
 case atStart => exact ⟨0,by decide,rfl,hw9⟩
 case round =>
  obtain ⟨i,hi,rfl,hr⟩ := hrel
  clear hw9
  have hxl : (wJ na nb i).length = 5 := by rw [xFr,hna]
  have hxu := xQ4 nb hua i
  by_cases hlt : i < 5
  ·have HS : Hid (wJ na nb (i + 1) = (wJ na nb i).set i (IntKind.u64.wrap ((wJ na nb i).getD i 0 + nb.getD i 0))) := hI' rfl
   obtain ⟨s,hs⟩ : ∃ s,wJ na nb (i + 1) = s := ⟨_,rfl⟩
   rw [hs] at HS
   have HSE := hI' hs
   clear hs
   generalize wJ na nb i = xs at hr hxl hxu HS
   obtain ⟨x,hx⟩ : ∃ x,xs.getD i 0 = x := ⟨_,rfl⟩
   obtain ⟨y,hy⟩ : ∃ y,nb.getD i 0 = y := ⟨_,rfl⟩
   obtain ⟨x0,x1⟩ := hxu i
   obtain ⟨y0,y1⟩ := hub i
   rw [hx] at x0 x1
   rw [hy] at y0 y1
   rw [hx,hy] at HS
   have HX := hI' hx
   obtain ⟨z,hz⟩ : ∃ z,IntKind.u64.wrap (x + y) = z := ⟨_,rfl⟩
   rw [hz] at HS
   have HZ := hI' hz
   go_upto_region 5 with fail
   refine RG.yN 9 (fun L W => Hid (wD w (if L 8 then xs.set i z else xs) nb W)) (fun L L' W h hI => by rw [← h 8 (by decide)]; exact hI) (by kernel_rfl) (by kernel_rfl) rfl (hI' hr.out.drew) ?_
   iterate 2
    apply RG.xJ
    ·rfl
    ·rfl
    ·intro L w9 h0 hcl xH hw9
     repeat go_step
     with_reducible refine RG.xB ?_
     exact ⟨xH,hw9⟩
    ·rfl
   apply RG.xJ
   ·rfl
   ·rfl
   ·intro L w9 h0 hcl xH hw9
    have e1 := hcl.not 9 (i := 8) h0 (by kernel_rfl)
    have hs9 := hw9.out
    rw [e1,if_neg (by simp)] at hs9
    have q := hs9.ba.cell (i := i) (by omega)
    rw [hx] at q
    clear e1 hs9
    repeat go_step
    with_reducible refine RG.xB ?_
    exact ⟨xH,hw9⟩
   ·rfl
   iterate 2
    apply RG.xJ
    ·rfl
    ·rfl
    ·intro L w9 h0 hcl xH hw9
     repeat go_step
     with_reducible refine RG.xB ?_
     exact ⟨xH,hw9⟩
    ·rfl
   apply RG.xJ
   ·rfl
   ·rfl
   ·intro L w9 h0 hcl xH hw9
    have q := hw9.out.bb.cell (i := i) (by omega)
    rw [hy] at q
    repeat go_step
    with_reducible refine RG.xB ?_
    exact ⟨xH,hw9⟩
   ·rfl
   apply RG.xJ
   ·rfl
   ·rfl
   ·intro L w9 h0 hcl xH hw9
    repeat go_step
    with_reducible refine RG.xB ?_
    exact ⟨xH,hw9⟩
   ·rfl
   apply RG.xJ
   ·rfl
   ·rfl
   ·intro L w9 h0 hcl xH hw9
    repeat go_step
    with_reducible refine RG.xB ?_
    exact ⟨xH,hw9⟩
   ·rfl
   apply RG.xJ
   ·rfl
   ·rfl
   ·intro L w9 h0 hcl xH hw9
    have hs9 := hw9.out
    rw [h0,if_neg (by simp)] at hs9
    have q1 := hs9.ba.cell (i := i) (by omega)
    have q2 := hs9.ba.free i
    rw [hx] at q1
    have hp : Hid (wD w (xs.set i z) nb (w9.setCell ⟨w.heap.size,i,none⟩ (.int .u64 z))) := hI' (hs9.put i z)
    clear hs9
    repeat go_step
    with_reducible refine RG.xB ?_
    refine ⟨xH,?_⟩
    show Hid (wD w (if (true : Bool) = true then xs.set i z else xs) nb _)
    rw [if_pos rfl]
    with_reducible exact hp
   ·rfl
   refine RG.yP (fun w9 hw9 => ?_)
   rw [if_pos rfl,← HS.out] at hw9
   clear hr
   go_wp2
   exact ⟨⟨i + 1,by omega,by go_num,by rw [HSE.out]; exact hw9⟩,by simp [intOf]; omega⟩
  ·have HRi := hI' (HR.out i (by omega))
   generalize wJ na nb i = xs at hr hxl hxu HRi
   have HIx := hI' (uN hxl)
   have HIr := hI' (uN hrl)
   have HZr : Hid ((xG (List.replicate 5 0)).size = (xG res).size) := hI' (xAq (by simp) hrl)
   have HNx := hI' (fun W => wO xs W hxl hxu)
   rw [← HRi.out] at HNx
   clear HNa HNb HRi hxu hxl
   go_upto_region 7 with fail
   refine wp_region_lit ?_
   refine wpList_load_row rfl _ _ rfl w.heap.size rfl _ (xG xs) (0,0) _ hr.out.ba Tryz.underlying210 rfl HIx.out ?_
   repeat go_step
   refine (HNx.out _).mono ?_
   rintro e w7 ⟨rfl,hb7⟩
   have h7 := hr.out.below hb7
   go_wp2_with (refine wpList_store_row rfl _ _ _ rfl (w.heap.size + 1 + 1) (xG res) rfl rfl _ _ h7.bz HIr.out HZr.out (xS _) ?_)
   refine bodyPost_ret (results_cell_row rfl _ _ (w.heap.size + 1 + 1) _ _ (0,0) _ rfl (setRow_heap _ _ _ _ _ _ h7.bz) Tryz.underlying210 rfl HIr.out) rfl ?_
   exact ⟨rfl,below_setRow h7.bel (by omega) _⟩
theorem yAd (ax bx : List Int) (w : World) (hl : ax.length = 5) (hu : yV ax) (hl2 : bx.length = 5) (hu2 : yV bx) :
  Calls Tryz.prog 191 #[.agg (xG ax),.agg (xG bx)] w fun e w' => e = .returned (.agg (xG (xHh ax bx))) ∧ Below w.heap.size w w' := by
 have HNa := hI' (fun W => wO ax W hl hu)
 have HNb := hI' (fun W => wO bx W hl2 hu2)
 have HIa := hI' (uN hl)
 have HIb := hI' (uN hl2)
 have xZ3 := hI' (uN (zN ax))
 have xZ2 := hI' (uN (zN bx))
 have HZa := hI' (xAq hl (zN ax))
 have HZb := hI' (xAq hl2 (zN bx))
 have hna := zN ax
 have hnb := zN bx
 have hua := wX ax
 have hub := wX bx
 have H0 := hI' (wD.start (w := w) ax bx)
 have HR : Hid (∀ n,n = 4 → xHh ax bx = zR (xKj (zR ax) (zR bx) n)) := hI' (fun n hn => by rw [hn]; rfl)
 obtain ⟨res,hres⟩ : ∃ x,xHh ax bx = x := ⟨_,rfl⟩
 have hrl : res.length = 5 := by rw [← hres]; rfl
 rw [hres] at HR ⊢
 clear hres hl hu hl2 hu2
 generalize zR ax = na at HNa xZ3 HZa hna hua HR
 generalize zR bx = nb at HNb xZ2 HZb hnb hub HR
 go_enter Tryz.func191,Tryz.ntmps191
 go_upto_region 1 with fail
 refine (fun (h : ∀ W3,Hid (wD w ax bx W3) → Code.wp _ _ _ _ W3) => h _ H0) ?_
 clear H0
 intro W0 H0
 refine RG.yN 6 (fun L W => Hid (wD w (if L 4 then na else ax) (if L 5 then nb else bx) W)) (fun L L' W h hI => by rw [← h 4 (by decide),← h 5 (by decide)]; exact hI) (by kernel_rfl) (by kernel_rfl) rfl (hI' H0.out.drew) ?_
 clear H0
 apply RG.xJ
 ·rfl
 ·rfl
 ·intro L w9 h0 hcl xH hw9
  have e1 := hcl.not 6 (i := 4) h0 (by kernel_rfl)
  have hs9 := hw9.out.ba
  rw [e1,if_neg (by simp)] at hs9
  refine wpList_load_row rfl _ _ rfl w.heap.size rfl _ (xG ax) (0,0) _ hs9 Tryz.underlying210 rfl HIa.out ?_
  repeat go_step
  with_reducible refine RG.xB ?_
  exact ⟨xH,hw9⟩
 ·rfl
 apply RG.xJ
 ·rfl
 ·rfl
 ·intro L w9 h0 hcl xH hw9
  repeat go_step
  refine (HNa.out _).mono ?_
  rintro e w10 ⟨rfl,yA⟩
  simp only []
  repeat go_step
  with_reducible refine RG.xB ?_
  exact ⟨xH,hI' (hw9.out.below yA)⟩
 ·rfl
 apply RG.xJ
 ·rfl
 ·rfl
 ·intro L w9 h0 hcl xH hw9
  have e1 := hcl.not 6 (i := 5) h0 (by kernel_rfl)
  have hs9 := hw9.out.bb
  rw [e1,if_neg (by simp)] at hs9
  refine wpList_load_row rfl _ _ rfl (w.heap.size + 1) rfl _ (xG bx) (0,0) _ hs9 Tryz.underlying210 rfl HIb.out ?_
  repeat go_step
  with_reducible refine RG.xB ?_
  exact ⟨xH,hw9⟩
 ·rfl
 apply RG.xJ
 ·rfl
 ·rfl
 ·intro L w9 h0 hcl xH hw9
  repeat go_step
  refine (HNb.out _).mono ?_
  rintro e w10 ⟨rfl,yA⟩
  simp only []
  repeat go_step
  with_reducible refine RG.xB ?_
  exact ⟨xH,hI' (hw9.out.below yA)⟩
 ·rfl
 apply RG.xJ
 ·rfl
 ·rfl
 ·intro L w9 h0 hcl xH hw9
  have hs9 := hw9.out
  rw [h0,if_neg (by simp)] at hs9
  refine wpList_store_row rfl _ _ _ rfl w.heap.size (xG na) rfl rfl _ _ hs9.ba xZ3.out HZa.out (xS _) ?_
  repeat go_step
  with_reducible refine RG.xB ?_
  exact ⟨xH,hI' (hs9.rowA na)⟩
 ·rfl
 apply RG.xJ
 ·rfl
 ·rfl
 ·intro L w9 h0 hcl xH hw9
  have hs9 := hw9.out
  rw [h0,if_neg (c := false = true) (by simp)] at hs9
  refine wpList_store_row rfl _ _ _ rfl (w.heap.size + 1) (xG nb) rfl rfl _ _ hs9.bb xZ2.out HZb.out (xS _) ?_
  repeat go_step
  with_reducible refine RG.xB ?_
  exact ⟨xH,hI' (hs9.rowB nb)⟩
 ·rfl
 refine RG.yP (fun w9 hw9 => ?_)
 rw [if_pos rfl,if_pos rfl] at hw9
 have H1 : Hid (wD w (xKj na nb 0) nb (w9.setCell ⟨w.heap.size,0,none⟩ (.int .u64 (IntKind.u64.wrap (na.getD 0 0 + IntKind.u64.wrap (4503599627370458 - nb.getD 0 0)))))) := hI' (hw9.out.put 0 _)
 have q1 := hw9.out.ba.cell (i := 0) (by omega)
 have q2 := hw9.out.bb.cell (i := 0) (by omega)
 have q3 := hw9.out.ba.free 0
 obtain ⟨x0,x1⟩ := hua 0
 obtain ⟨y0,y1⟩ := hub 0
 generalize na.getD 0 0 = x at q1 x0 x1 H1
 generalize nb.getD 0 0 = y at q2 y0 y1 H1
 clear hw9
 go_wp2_with fail
 clear q1 q2 q3 x0 x1 y0 y1
 go_loopw [5] (fun iv W => ∃ i k : Nat,i = k + 1 ∧ k ≤ 4 ∧ iv = .int .i64 i ∧ Hid (wD w (xKj na nb k) nb W)) (fun iv _ => 5 - (intOf iv).toNat)
 case atStart => exact ⟨1,0,rfl,by decide,rfl,H1⟩
 case round =>
  obtain ⟨i,k,hik,hi,rfl,hr⟩ := hrel
  clear H1
  have hxl : (xKj na nb k).length = 5 := by rw [xOd,hna]
  have hxu := xZ7 nb hua k
  by_cases hlt : i < 5
  ·have HS : Hid (∀ j,j = k + 1 → xKj na nb (k + 1) = (xKj na nb k).set j (IntKind.u64.wrap ((xKj na nb k).getD j 0 + IntKind.u64.wrap (4503599627370494 - nb.getD j 0)))) := hI' (fun j hj => by rw [hj]; rfl)
   replace HS := hI' (HS.out i hik)
   obtain ⟨s,hs⟩ : ∃ s,xKj na nb (k + 1) = s := ⟨_,rfl⟩
   rw [hs] at HS
   have HSE := hI' hs
   clear hs
   generalize xKj na nb k = xs at hr hxl hxu HS
   obtain ⟨x,hx⟩ : ∃ x,xs.getD i 0 = x := ⟨_,rfl⟩
   obtain ⟨y,hy⟩ : ∃ y,nb.getD i 0 = y := ⟨_,rfl⟩
   obtain ⟨x0,x1⟩ := hxu i
   obtain ⟨y0,y1⟩ := hub i
   rw [hx] at x0 x1
   rw [hy] at y0 y1
   rw [hx,hy] at HS
   have HX := hI' hx
   obtain ⟨z,hz⟩ : ∃ z,IntKind.u64.wrap (x + IntKind.u64.wrap (4503599627370494 - y)) = z := ⟨_,rfl⟩
   rw [hz] at HS
   have HZ := hI' hz
   have HIK := hI' hik
   clear hik
   go_upto_region 6 with fail
   refine RG.yN 10 (fun L W => Hid (wD w (if L 9 then xs.set i z else xs) nb W)) (fun L L' W h hI => by rw [← h 9 (by decide)]; exact hI) (by kernel_rfl) (by kernel_rfl) rfl (hI' hr.out.drew) ?_
   iterate 2
    apply RG.xJ
    ·rfl
    ·rfl
    ·intro L w9 h0 hcl xH hw9
     repeat go_step
     with_reducible refine RG.xB ?_
     exact ⟨xH,hw9⟩
    ·rfl
   apply RG.xJ
   ·rfl
   ·rfl
   ·intro L w9 h0 hcl xH hw9
    have e1 := hcl.not 10 (i := 9) h0 (by kernel_rfl)
    have hs9 := hw9.out
    rw [e1,if_neg (by simp)] at hs9
    have q := hs9.ba.cell (i := i) (by omega)
    rw [hx] at q
    clear e1 hs9
    repeat go_step
    with_reducible refine RG.xB ?_
    exact ⟨xH,hw9⟩
   ·rfl
   iterate 2
    apply RG.xJ
    ·rfl
    ·rfl
    ·intro L w9 h0 hcl xH hw9
     repeat go_step
     with_reducible refine RG.xB ?_
     exact ⟨xH,hw9⟩
    ·rfl
   apply RG.xJ
   ·rfl
   ·rfl
   ·intro L w9 h0 hcl xH hw9
    have q := hw9.out.bb.cell (i := i) (by omega)
    rw [hy] at q
    repeat go_step
    with_reducible refine RG.xB ?_
    exact ⟨xH,hw9⟩
   ·rfl
   iterate 3
    apply RG.xJ
    ·rfl
    ·rfl
    ·intro L w9 h0 hcl xH hw9
     repeat go_step
     with_reducible refine RG.xB ?_
     exact ⟨xH,hw9⟩
    ·rfl
   apply RG.xJ
   ·rfl
   ·rfl
   ·intro L w9 h0 hcl xH hw9
    have hs9 := hw9.out
    rw [h0,if_neg (by simp)] at hs9
    have q1 := hs9.ba.cell (i := i) (by omega)
    have q2 := hs9.ba.free i
    rw [hx] at q1
    have hp : Hid (wD w (xs.set i z) nb (w9.setCell ⟨w.heap.size,i,none⟩ (.int .u64 z))) := hI' (hs9.put i z)
    clear hs9
    repeat go_step
    with_reducible refine RG.xB ?_
    refine ⟨xH,?_⟩
    show Hid (wD w (if (true : Bool) = true then xs.set i z else xs) nb _)
    rw [if_pos rfl]
    with_reducible exact hp
   ·rfl
   refine RG.yP (fun w9 hw9 => ?_)
   rw [if_pos rfl,← HS.out] at hw9
   clear hr
   go_wp2
   exact ⟨⟨i + 1,k + 1,by rw [HIK.out],by have := HIK.out; omega,by go_num,by rw [HSE.out]; exact hw9⟩,by simp [intOf]; omega⟩
  ·have HRi := hI' (HR.out k (by omega))
   generalize xKj na nb k = xs at hr hxl hxu HRi
   have HIx := hI' (uN hxl)
   have HIr := hI' (uN hrl)
   have HZr : Hid ((xG (List.replicate 5 0)).size = (xG res).size) := hI' (xAq (by simp) hrl)
   have HNx := hI' (fun W => wO xs W hxl hxu)
   rw [← HRi.out] at HNx
   clear HNa HNb HRi hxu hxl hik
   go_upto_region 7 with fail
   refine wp_region_lit ?_
   refine wpList_load_row rfl _ _ rfl w.heap.size rfl _ (xG xs) (0,0) _ hr.out.ba Tryz.underlying210 rfl HIx.out ?_
   repeat go_step
   refine (HNx.out _).mono ?_
   rintro e w7 ⟨rfl,hb7⟩
   have h7 := hr.out.below hb7
   go_wp2_with (refine wpList_store_row rfl _ _ _ rfl (w.heap.size + 1 + 1) (xG res) rfl rfl _ _ h7.bz HIr.out HZr.out (xS _) ?_)
   refine bodyPost_ret (results_cell_row rfl _ _ (w.heap.size + 1 + 1) _ _ (0,0) _ rfl (setRow_heap _ _ _ _ _ _ h7.bz) Tryz.underlying210 rfl HIr.out) rfl ?_
   exact ⟨rfl,below_setRow h7.bel (by omega) _⟩
end Go.Proofs.FE
