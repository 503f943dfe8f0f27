/- The walks of the reference of layer 4, 2: Bits. -/
import Derived.Test.YtdjbalaicfienaaC3
namespace Go.Proofs.Ytdjbalaicfienaa
open Go.RowKit
set_option linter.unusedVariables false
set_option linter.unusedSimpArgs false

theorem zero_is' (w : World) : RB.Is ⟨0, none, 0, 0, []⟩ w [] := RB.zero_is w
theorem rput_is (x : RB) (bs : List Bool) (v : Nat) (wv : Int) (wd : Nat) (w : World) (hwv : wv = wd) (hx : x.Is w bs) (h64 : wd ≤ 64) (hv : v < 2 ^ wd) (hl : bs.length + wd ≤ 4096) :
    Calls Try.prog 63 #[x.val, .int .u64 v, .int .i64 wv] w fun e w' => ∃ y : RB, e = .returned (.tuple #[y.val, .int .i64 0]) ∧ y.Is w' (bs ++ numBits v wd) ∧ y.Fr w.heap.size ∧ Keeps w w' := by
  subst hwv
  have h := rput_any x v wd w hx.isIn (pow_64 h64 hv)
  rw [putRes_is hx, if_pos] at h
  · unfold ofRes at h
    rw [Int.toNat_natCast, if_pos (by rw [List.length_append, numBits_len]; exact hl)] at h
    exact h
  · simp only [putArg, Bool.and_eq_true, decide_eq_true_eq, Int.toNat_natCast]
    exact ⟨by omega, by omega, hv⟩

set_option maxHeartbeats 1000000 in
set_option maxRecDepth 100000 in
theorem rcbits_no (c : CS) (w : World) (h : csOk c 8 = false) :
    Calls Try.prog 15 #[c.val] w fun e w' => e = .returned (.tuple #[RB.zero.val, .int .i64 40]) ∧ Keeps w w' := by
  have HC := Lib.hid h
  clear h
  obtain ⟨t, p, m, x, b⟩ := c
  show Calls Try.prog 15 #[.agg #[.int .i64 t, .int .i64 p, .int .i64 m, .int .i64 x, .int .i64 b]] w _
  go_enter Try.func15, Try.ntmps15
  go_wp2_with fail
  with_reducible refine (rccheck_no ⟨t, p, m, x, b⟩ _ HC.out).mono ?_
  rintro e w1 ⟨rfl, hk1⟩
  have hb := (Box.new (w.alloc (.cells #[.int .i64 t, .int .i64 p, .int .i64 m, .int .i64 x, .int .i64 b] 23)) 26 #[.int .i64 0, .slice none 0 0]).keeps hk1
  rw [World.size_alloc] at hb
  have hx0 := hb.cell 0 _ rfl
  have hx1 := hb.cell 1 _ rfl
  have hxf := hb.frozen
  have HK := Lib.hid (((Keeps.refl w).alloc _).alloc _ |>.trans hk1)
  clear hk1 hb
  go_wp2_with fail
  refine bodyPost_ret (by simp [results, Try.results15, go_sem, RB.zero, *]) rfl ⟨rfl, (HK.out.setCell (by simp) _).setCell (by simp) _⟩

set_option maxHeartbeats 4000000 in
set_option maxRecDepth 100000 in
theorem rcbits_ok (tn pn mn xn bn : Nat) (w : World) (ht : tn < 256) (hp : pn < 8) (hm : mn < 4) (hx : xn ≤ 4) (hb : bn < 256) :
    Calls Try.prog 15 #[.agg #[.int .i64 tn, .int .i64 pn, .int .i64 mn, .int .i64 xn, .int .i64 bn]] w fun e w' => Res w w' e (csTo tn pn mn xn bn 5, 0) := by
  have HC := Lib.hid (show csOk ⟨tn, pn, mn, xn, bn⟩ 8 = true by rw [csOk_iff]; exact ⟨by simp only; omega, by simp only; omega, by simp only; omega, by simp only; omega, by simp only; omega, by simp only; omega, by simp only; omega, by simp only; omega, by simp only; omega, by show (bn : Int) < 256; omega⟩)
  have hba := Box.new w 23 #[.int .i64 tn, .int .i64 pn, .int .i64 mn, .int .i64 xn, .int .i64 bn] |>.next (.cells #[.int .i64 0, .slice none 0 0] 26)
  have hbz := Box.new (w.alloc (.cells #[.int .i64 tn, .int .i64 pn, .int .i64 mn, .int .i64 xn, .int .i64 bn] 23)) 26 #[.int .i64 0, .slice none 0 0]
  rw [World.size_alloc] at hbz
  have HA := Lib.hid hba
  have HZ := Lib.hid hbz
  have HK := Lib.hid (((Keeps.refl w).alloc (.cells #[.int .i64 tn, .int .i64 pn, .int .i64 mn, .int .i64 xn, .int .i64 bn] 23)).alloc (.cells #[.int .i64 0, .slice none 0 0] 26))
  have u0 : IntKind.u64.wrap (tn : Int) = tn := IntWalk.u64_in _ (by omega)
  have u1 : IntKind.u64.wrap (pn : Int) = pn := IntWalk.u64_in _ (by omega)
  have u2 : IntKind.u64.wrap (mn : Int) = mn := IntWalk.u64_in _ (by omega)
  have u3 : IntKind.u64.wrap (xn : Int) = xn := IntWalk.u64_in _ (by omega)
  have u4 : IntKind.u64.wrap (bn : Int) = bn := IntWalk.u64_in _ (by omega)
  clear hba hbz
  go_enter Try.func15, Try.ntmps15
  go_wp2_with fail
  with_reducible refine (rccheck_ok ⟨tn, pn, mn, xn, bn⟩ _ HC.out).mono ?_
  rintro e w1 ⟨rfl, hk1⟩
  replace HA := Lib.hid (HA.out.keeps hk1)
  replace HZ := Lib.hid (HZ.out.keeps hk1)
  replace HK := Lib.hid (HK.out.trans hk1)
  clear hk1
  have a0 := HA.out.cell 0 _ rfl
  have a1 := HA.out.cell 1 _ rfl
  have a2 := HA.out.cell 2 _ rfl
  have a3 := HA.out.cell 3 _ rfl
  have a4 := HA.out.cell 4 _ rfl
  have hal := HA.out.lt
  have hzl := HZ.out.lt
  go_wp2_with fail
  with_reducible refine (rput_is ⟨0, none, 0, 0, []⟩ [] tn 8 8 _ (by decide) (by exact zero_is' _) (by decide) (by omega) (by simp [csTo, numBits_len])).mono ?_
  rintro e w2 ⟨y, rfl, hy, hf, hk⟩
  obtain ⟨n2, b2, len2, cap2, l2⟩ := y
  have HY : Hid (RB.Is ⟨n2, b2, len2, cap2, l2⟩ (w2.alloc (.cells #[.int .i64 n2, .slice b2 len2 cap2] 26)) (csTo tn pn mn xn bn 1)) := hy.keeps ((Keeps.refl _).alloc (.cells #[.int .i64 n2, .slice b2 len2 cap2] 26))
  have hs1 : w1.heap.size ≤ w2.heap.size := hk.size
  replace HA := Lib.hid ((HA.out.keeps hk).next (.cells #[.int .i64 n2, .slice b2 len2 cap2] 26))
  replace HZ := Lib.hid ((HZ.out.keeps hk).next (.cells #[.int .i64 n2, .slice b2 len2 cap2] 26))
  have HB := Lib.hid (Box.new w2 26 #[.int .i64 n2, .slice b2 len2 cap2])
  replace HK := Lib.hid ((HK.out.trans hk).alloc (.cells #[.int .i64 n2, .slice b2 len2 cap2] 26))
  have hq0 : w.heap.size + 1 < w2.heap.size := by omega
  clear hk hy hf a0 a1 a2 a3 a4 hal hzl
  have a0 := HA.out.cell 0 _ rfl
  have a1 := HA.out.cell 1 _ rfl
  have a2 := HA.out.cell 2 _ rfl
  have a3 := HA.out.cell 3 _ rfl
  have a4 := HA.out.cell 4 _ rfl
  have hal := HA.out.lt
  have hbl := HB.out.lt
  go_wp2_with fail
  with_reducible refine (rput_is ⟨n2, b2, len2, cap2, l2⟩ (csTo tn pn mn xn bn 1) pn 3 3 _ (by decide) (by exact HY.out) (by decide) (by omega) (by simp [csTo, numBits_len])).mono ?_
  rintro e w3 ⟨y, rfl, hy, hf, hk⟩
  obtain ⟨n3, b3, len3, cap3, l3⟩ := y
  have hsk := hk.size
  have HBP := Lib.hid (HB.out.keeps hk)
  have HAP := Lib.hid (HA.out.keeps hk)
  have b0 := HBP.out.cell 0 _ rfl
  have b1 := HBP.out.cell 1 _ rfl
  have bf := HBP.out.frozen
  have bl := HBP.out.lt
  replace HY : Hid (RB.Is ⟨n3, b3, len3, cap3, l3⟩ ((w3.setCell ⟨w2.heap.size, 0, none⟩ (.int .i64 n3)).setCell ⟨w2.heap.size, 1, none⟩ (.slice b3 len3 cap3)) (csTo tn pn mn xn bn 2)) := RB.Is.put (b := w2.heap.size) (RB.Is.put (b := w2.heap.size) hy hf hbl 0 (.int .i64 n3)) hf hbl 1 (.slice b3 len3 cap3)
  replace HB : Hid (Box ((w3.setCell ⟨w2.heap.size, 0, none⟩ (.int .i64 n3)).setCell ⟨w2.heap.size, 1, none⟩ (.slice b3 len3 cap3)) w2.heap.size 26 #[.int .i64 n3, .slice b3 len3 cap3]) := Box.putP (Box.putP HBP.out 0 _) 1 _
  replace HA : Hid (Box ((w3.setCell ⟨w2.heap.size, 0, none⟩ (.int .i64 n3)).setCell ⟨w2.heap.size, 1, none⟩ (.slice b3 len3 cap3)) w.heap.size 23 #[.int .i64 tn, .int .i64 pn, .int .i64 mn, .int .i64 xn, .int .i64 bn]) := (HAP.out.keepsBut (KeepsBut.setCell _ w2.heap.size _ _) (by omega)).keepsBut (KeepsBut.setCell _ w2.heap.size _ _) (by omega)
  replace HZ : Hid (Box ((w3.setCell ⟨w2.heap.size, 0, none⟩ (.int .i64 n3)).setCell ⟨w2.heap.size, 1, none⟩ (.slice b3 len3 cap3)) (w.heap.size + 1) 26 #[.int .i64 0, .slice none 0 0]) := ((HZ.out.keeps hk).keepsBut (KeepsBut.setCell _ w2.heap.size _ _) (by omega)).keepsBut (KeepsBut.setCell _ w2.heap.size _ _) (by omega)
  replace HK : Hid (Keeps w ((w3.setCell ⟨w2.heap.size, 0, none⟩ (.int .i64 n3)).setCell ⟨w2.heap.size, 1, none⟩ (.slice b3 len3 cap3))) := ((HK.out.trans hk).setCell (p := ⟨w2.heap.size, 0, none⟩) (by simp only; omega) _).setCell (p := ⟨w2.heap.size, 1, none⟩) (by simp only; omega) _
  clear hk hy hf a0 a1 a2 a3 a4 hbl hal HBP
  have a0 := HAP.out.cell 0 _ rfl
  have a1 := HAP.out.cell 1 _ rfl
  have a2 := HAP.out.cell 2 _ rfl
  have a3 := HAP.out.cell 3 _ rfl
  have a4 := HAP.out.cell 4 _ rfl
  have hal := HAP.out.lt
  have hne : ¬ w.heap.size = w2.heap.size := by omega
  have hne' : ¬ w2.heap.size = w.heap.size := by omega
  have hbl : w2.heap.size < (((w3.setCell ⟨w2.heap.size, 0, none⟩ (.int .i64 n3)).setCell ⟨w2.heap.size, 1, none⟩ (.slice b3 len3 cap3))).heap.size := HB.out.lt
  go_wp2_with fail
  with_reducible refine (rput_is ⟨n3, b3, len3, cap3, l3⟩ (csTo tn pn mn xn bn 2) mn 2 2 _ (by decide) (by exact HY.out) (by decide) (by omega) (by simp [csTo, numBits_len])).mono ?_
  rintro e w4 ⟨y, rfl, hy, hf, hk⟩
  obtain ⟨n4, b4, len4, cap4, l4⟩ := y
  have hsk := hk.size
  have HBP := Lib.hid (HB.out.keeps hk)
  have HAP := Lib.hid (HA.out.keeps hk)
  have b0 := HBP.out.cell 0 _ rfl
  have b1 := HBP.out.cell 1 _ rfl
  have bf := HBP.out.frozen
  have bl := HBP.out.lt
  replace HY : Hid (RB.Is ⟨n4, b4, len4, cap4, l4⟩ ((w4.setCell ⟨w2.heap.size, 0, none⟩ (.int .i64 n4)).setCell ⟨w2.heap.size, 1, none⟩ (.slice b4 len4 cap4)) (csTo tn pn mn xn bn 3)) := RB.Is.put (b := w2.heap.size) (RB.Is.put (b := w2.heap.size) hy hf hbl 0 (.int .i64 n4)) hf hbl 1 (.slice b4 len4 cap4)
  replace HB : Hid (Box ((w4.setCell ⟨w2.heap.size, 0, none⟩ (.int .i64 n4)).setCell ⟨w2.heap.size, 1, none⟩ (.slice b4 len4 cap4)) w2.heap.size 26 #[.int .i64 n4, .slice b4 len4 cap4]) := Box.putP (Box.putP HBP.out 0 _) 1 _
  replace HA : Hid (Box ((w4.setCell ⟨w2.heap.size, 0, none⟩ (.int .i64 n4)).setCell ⟨w2.heap.size, 1, none⟩ (.slice b4 len4 cap4)) w.heap.size 23 #[.int .i64 tn, .int .i64 pn, .int .i64 mn, .int .i64 xn, .int .i64 bn]) := (HAP.out.keepsBut (KeepsBut.setCell _ w2.heap.size _ _) (by omega)).keepsBut (KeepsBut.setCell _ w2.heap.size _ _) (by omega)
  replace HZ : Hid (Box ((w4.setCell ⟨w2.heap.size, 0, none⟩ (.int .i64 n4)).setCell ⟨w2.heap.size, 1, none⟩ (.slice b4 len4 cap4)) (w.heap.size + 1) 26 #[.int .i64 0, .slice none 0 0]) := ((HZ.out.keeps hk).keepsBut (KeepsBut.setCell _ w2.heap.size _ _) (by omega)).keepsBut (KeepsBut.setCell _ w2.heap.size _ _) (by omega)
  replace HK : Hid (Keeps w ((w4.setCell ⟨w2.heap.size, 0, none⟩ (.int .i64 n4)).setCell ⟨w2.heap.size, 1, none⟩ (.slice b4 len4 cap4))) := ((HK.out.trans hk).setCell (p := ⟨w2.heap.size, 0, none⟩) (by simp only; omega) _).setCell (p := ⟨w2.heap.size, 1, none⟩) (by simp only; omega) _
  clear hk hy hf a0 a1 a2 a3 a4 hbl hal HBP
  have a0 := HAP.out.cell 0 _ rfl
  have a1 := HAP.out.cell 1 _ rfl
  have a2 := HAP.out.cell 2 _ rfl
  have a3 := HAP.out.cell 3 _ rfl
  have a4 := HAP.out.cell 4 _ rfl
  have hal := HAP.out.lt
  have hne : ¬ w.heap.size = w2.heap.size := by omega
  have hne' : ¬ w2.heap.size = w.heap.size := by omega
  have hbl : w2.heap.size < (((w4.setCell ⟨w2.heap.size, 0, none⟩ (.int .i64 n4)).setCell ⟨w2.heap.size, 1, none⟩ (.slice b4 len4 cap4))).heap.size := HB.out.lt
  go_wp2_with fail
  with_reducible refine (rput_is ⟨n4, b4, len4, cap4, l4⟩ (csTo tn pn mn xn bn 3) xn 3 3 _ (by decide) (by exact HY.out) (by decide) (by omega) (by simp [csTo, numBits_len])).mono ?_
  rintro e w5 ⟨y, rfl, hy, hf, hk⟩
  obtain ⟨n5, b5, len5, cap5, l5⟩ := y
  have hsk := hk.size
  have HBP := Lib.hid (HB.out.keeps hk)
  have HAP := Lib.hid (HA.out.keeps hk)
  have b0 := HBP.out.cell 0 _ rfl
  have b1 := HBP.out.cell 1 _ rfl
  have bf := HBP.out.frozen
  have bl := HBP.out.lt
  replace HY : Hid (RB.Is ⟨n5, b5, len5, cap5, l5⟩ ((w5.setCell ⟨w2.heap.size, 0, none⟩ (.int .i64 n5)).setCell ⟨w2.heap.size, 1, none⟩ (.slice b5 len5 cap5)) (csTo tn pn mn xn bn 4)) := RB.Is.put (b := w2.heap.size) (RB.Is.put (b := w2.heap.size) hy hf hbl 0 (.int .i64 n5)) hf hbl 1 (.slice b5 len5 cap5)
  replace HB : Hid (Box ((w5.setCell ⟨w2.heap.size, 0, none⟩ (.int .i64 n5)).setCell ⟨w2.heap.size, 1, none⟩ (.slice b5 len5 cap5)) w2.heap.size 26 #[.int .i64 n5, .slice b5 len5 cap5]) := Box.putP (Box.putP HBP.out 0 _) 1 _
  replace HA : Hid (Box ((w5.setCell ⟨w2.heap.size, 0, none⟩ (.int .i64 n5)).setCell ⟨w2.heap.size, 1, none⟩ (.slice b5 len5 cap5)) w.heap.size 23 #[.int .i64 tn, .int .i64 pn, .int .i64 mn, .int .i64 xn, .int .i64 bn]) := (HAP.out.keepsBut (KeepsBut.setCell _ w2.heap.size _ _) (by omega)).keepsBut (KeepsBut.setCell _ w2.heap.size _ _) (by omega)
  replace HZ : Hid (Box ((w5.setCell ⟨w2.heap.size, 0, none⟩ (.int .i64 n5)).setCell ⟨w2.heap.size, 1, none⟩ (.slice b5 len5 cap5)) (w.heap.size + 1) 26 #[.int .i64 0, .slice none 0 0]) := ((HZ.out.keeps hk).keepsBut (KeepsBut.setCell _ w2.heap.size _ _) (by omega)).keepsBut (KeepsBut.setCell _ w2.heap.size _ _) (by omega)
  replace HK : Hid (Keeps w ((w5.setCell ⟨w2.heap.size, 0, none⟩ (.int .i64 n5)).setCell ⟨w2.heap.size, 1, none⟩ (.slice b5 len5 cap5))) := ((HK.out.trans hk).setCell (p := ⟨w2.heap.size, 0, none⟩) (by simp only; omega) _).setCell (p := ⟨w2.heap.size, 1, none⟩) (by simp only; omega) _
  clear hk hy hf a0 a1 a2 a3 a4 hbl hal HBP
  have a0 := HAP.out.cell 0 _ rfl
  have a1 := HAP.out.cell 1 _ rfl
  have a2 := HAP.out.cell 2 _ rfl
  have a3 := HAP.out.cell 3 _ rfl
  have a4 := HAP.out.cell 4 _ rfl
  have hal := HAP.out.lt
  have hne : ¬ w.heap.size = w2.heap.size := by omega
  have hne' : ¬ w2.heap.size = w.heap.size := by omega
  have hbl : w2.heap.size < (((w5.setCell ⟨w2.heap.size, 0, none⟩ (.int .i64 n5)).setCell ⟨w2.heap.size, 1, none⟩ (.slice b5 len5 cap5))).heap.size := HB.out.lt
  go_wp2_with fail
  with_reducible refine (rput_is ⟨n5, b5, len5, cap5, l5⟩ (csTo tn pn mn xn bn 4) bn 8 8 _ (by decide) (by exact HY.out) (by decide) (by omega) (by simp [csTo, numBits_len])).mono ?_
  rintro e w6 ⟨y, rfl, hy, hf, hk⟩
  obtain ⟨n6, b6, len6, cap6, l6⟩ := y
  have HZ2 := Lib.hid (HZ.out.keeps hk)
  have HK2 := Lib.hid (HK.out.trans hk)
  have HYY := Lib.hid hy
  have HF := Lib.hid hf
  have z0 := HZ2.out.cell 0 _ rfl
  have z1 := HZ2.out.cell 1 _ rfl
  have zf := HZ2.out.frozen
  have hsw : w.heap.size + 1 < (((w5.setCell ⟨w2.heap.size, 0, none⟩ (.int .i64 n5)).setCell ⟨w2.heap.size, 1, none⟩ (.slice b5 len5 cap5))).heap.size := HZ.out.lt
  clear hk hy hf
  go_wp2_with fail
  refine bodyPost_ret (by simp [results, Try.results15, go_sem, *]) rfl ⟨⟨n6, b6, len6, cap6, l6⟩, rfl, ?_, fun a ha => ?_, ?_⟩
  · exact RB.Is.put (b := w.heap.size + 1) (RB.Is.put (b := w.heap.size + 1) HYY.out HF.out hsw _ _) HF.out hsw _ _
  · have := HF.out a ha; omega
  · exact (HK2.out.setCell (by simp) _).setCell (by simp) _

theorem cbits_any (c : CS) (w : World) : Calls Try.prog 14 #[c.val] w fun e w' => Res w w' e (cbitsRes c) := by
  unfold cbitsRes
  cases h : csOk c 8
  · exact (cbits_no c w h).mono fun e w' h => Res.no h
  · obtain ⟨t, p, m, x, b⟩ := c
    obtain ⟨h1, h2, h3, h4, h5, h6, h7, h8, h9, h10⟩ := (csOk_iff _ _).1 h
    simp only at h1 h2 h3 h4 h5 h6 h7 h8 h9 h10
    obtain ⟨tn, rfl⟩ := Int.eq_ofNat_of_zero_le h1
    obtain ⟨pn, rfl⟩ := Int.eq_ofNat_of_zero_le h3
    obtain ⟨mn, rfl⟩ := Int.eq_ofNat_of_zero_le h5
    obtain ⟨xn, rfl⟩ := Int.eq_ofNat_of_zero_le h7
    obtain ⟨bn, rfl⟩ := Int.eq_ofNat_of_zero_le h9
    have h10' : (bn : Int) < 256 := h10
    exact cbits_ok tn pn mn xn bn w (by omega) (by omega) (by omega) (by omega) (by omega)
theorem rcbits_any (c : CS) (w : World) : Calls Try.prog 15 #[c.val] w fun e w' => Res w w' e (cbitsRes c) := by
  unfold cbitsRes
  cases h : csOk c 8
  · exact (rcbits_no c w h).mono fun e w' h => Res.no h
  · obtain ⟨t, p, m, x, b⟩ := c
    obtain ⟨h1, h2, h3, h4, h5, h6, h7, h8, h9, h10⟩ := (csOk_iff _ _).1 h
    simp only at h1 h2 h3 h4 h5 h6 h7 h8 h9 h10
    obtain ⟨tn, rfl⟩ := Int.eq_ofNat_of_zero_le h1
    obtain ⟨pn, rfl⟩ := Int.eq_ofNat_of_zero_le h3
    obtain ⟨mn, rfl⟩ := Int.eq_ofNat_of_zero_le h5
    obtain ⟨xn, rfl⟩ := Int.eq_ofNat_of_zero_le h7
    obtain ⟨bn, rfl⟩ := Int.eq_ofNat_of_zero_le h9
    have h10' : (bn : Int) < 256 := h10
    exact rcbits_ok tn pn mn xn bn w (by omega) (by omega) (by omega) (by omega) (by omega)
end Go.Proofs.Ytdjbalaicfienaa
