/- The walks of the reference of layer 13: Check. -/
import Derived.Test.YtcophhdlcjemeaaM11
namespace Go.Proofs.Ytcophhdlcjemeaa
open Go.RowKit Go.Shelf
set_option linter.unusedVariables false
set_option linter.unusedSimpArgs false
set_option maxRecDepth 100000 in
set_option maxHeartbeats 1000000 in
theorem rkcheck_any (m : RMedl) (c : RClk) (w : World) (hm : m.In w) (hc : c.In w) :
    Calls Try.prog 57 #[m.val, c.val] w fun e w' => e = .returned (.int .i64 (clkErr m c)) ∧ Keeps w w' := by
  have HM := Lib.hid hm
  have HC := Lib.hid hc
  clear hm hc
  have HOK := Lib.hid (@medlOk_nums m)
  have HCH := Lib.hid (rmcheck_any m)
  have HR : Hid (clkErr m c = cond (medlOk m) (cond (decide (0 ≤ c.start ∧ c.start ≤ 1099494850560 ∧ 0 ≤ c.slot ∧ c.slot ≤ 1048576 ∧ c.ds.length ≤ 8) && devsOk m.window c.ds) 0 130) 70) := Lib.hid rfl
  have HE0 : Hid (medlErr m = cond (medlOk m) 0 70) := Lib.hid rfl
  obtain ⟨R, hR⟩ : ∃ R, R = clkErr m c := ⟨_, rfl⟩
  rw [← hR] at HR ⊢
  clear hR
  rw [HE0.out] at HCH
  clear HE0
  obtain ⟨A, hA⟩ : ∃ A, A = medlOk m := ⟨_, rfl⟩
  rw [← hA] at HR HCH HOK
  clear hA
  obtain ⟨ca, cc, hcv, hc1, hc2, hc3⟩ := HM.out.c.shape
  obtain ⟨da, dc, hdv, hd1, hd2, hd3⟩ := HC.out.d.shape
  clear hc3 hd3
  obtain ⟨no, sl, ga, wi, dr, de, cv, cs, ma, mn, mc, xs⟩ := m
  obtain ⟨st, so, dv, ds⟩ := c
  simp only at hcv hdv hc1 hd1 HOK HCH HR
  subst hcv hdv
  have HDV := Lib.hid HC.out.d
  simp only at HDV
  have HK := Lib.hid (((Keeps.refl w).alloc (.cells #[.int .i64 no, .int .i64 sl, .int .i64 ga, .int .i64 wi, .int .i64 dr, .int .i64 de, .slice ca cs.length cc, .slice ma mn mc] 25)).alloc (.cells #[.int .i64 st, .int .i64 so, .slice da ds.length dc] 28))
  have HB1 := Lib.hid ((Box.new w 25 #[.int .i64 no, .int .i64 sl, .int .i64 ga, .int .i64 wi, .int .i64 dr, .int .i64 de, .slice ca cs.length cc, .slice ma mn mc]).next (.cells #[.int .i64 st, .int .i64 so, .slice da ds.length dc] 28))
  have hb := Box.new (w.alloc (.cells #[.int .i64 no, .int .i64 sl, .int .i64 ga, .int .i64 wi, .int .i64 dr, .int .i64 de, .slice ca cs.length cc, .slice ma mn mc] 25)) 28 #[.int .i64 st, .int .i64 so, .slice da ds.length dc]
  rw [World.size_alloc] at hb
  have HB2 := Lib.hid hb
  clear hb
  show Calls Try.prog 57 #[.agg #[.int .i64 no, .int .i64 sl, .int .i64 ga, .int .i64 wi, .int .i64 dr, .int .i64 de, .slice ca cs.length cc, .slice ma mn mc], .agg #[.int .i64 st, .int .i64 so, .slice da ds.length dc]] w _
  cases A
  · go_enter Try.func57, Try.ntmps57
    go_wp2_with fail
    with_reducible refine (HCH.out _ (by exact HM.out.keeps HK.out)).mono ?_
    rintro e w1 ⟨rfl, hk1⟩
    replace HK := Lib.hid (HK.out.trans hk1)
    clear hk1
    simp only [cond_false]
    go_wp2_with fail
    go_ret
    exact ⟨ret_int HR.out.symm, HK.out⟩
  have hn := HOK.out (by first | rfl | trivial)
  replace HR : Hid (R = cond (decide (0 ≤ st ∧ st ≤ 1099494850560 ∧ 0 ≤ so ∧ so ≤ 1048576 ∧ ds.length ≤ 8) && devsOk wi ds) 0 130) := Lib.hid HR.out
  have HNO : Hid (¬ (0 ≤ st ∧ st ≤ 1099494850560 ∧ 0 ≤ so ∧ so ≤ 1048576 ∧ ds.length ≤ 8) → R = 130) := fun h => by rw [HR.out, decide_eq_false h]; rfl
  have HYES : Hid ((0 ≤ st ∧ st ≤ 1099494850560 ∧ 0 ≤ so ∧ so ≤ 1048576 ∧ ds.length ≤ 8) → R = cond (devsOk wi ds) 0 130) := fun h => by rw [HR.out, decide_eq_true h]; rfl
  clear HR HOK
  have hwi1 : 0 ≤ wi := by omega
  have hwi2 : wi ≤ 1048576 := by omega
  clear hn
  go_enter Try.func57, Try.ntmps57
  go_wp2_with fail
  with_reducible refine (HCH.out _ (by exact HM.out.keeps HK.out)).mono ?_
  rintro e w1 ⟨rfl, hk1⟩
  replace HK := Lib.hid (HK.out.trans hk1)
  replace HB1 := Lib.hid (HB1.out.keeps hk1)
  replace HB2 := Lib.hid (HB2.out.keeps hk1)
  clear hk1 HCH
  have m0 := HB1.out.cell 0 _ rfl
  have m1 := HB1.out.cell 1 _ rfl
  have m2 := HB1.out.cell 2 _ rfl
  have m3 := HB1.out.cell 3 _ rfl
  have m4 := HB1.out.cell 4 _ rfl
  have m5 := HB1.out.cell 5 _ rfl
  have m6 := HB1.out.cell 6 _ rfl
  have m7 := HB1.out.cell 7 _ rfl
  have ml := HB1.out.lt
  have k0 := HB2.out.cell 0 _ rfl
  have k1 := HB2.out.cell 1 _ rfl
  have k2 := HB2.out.cell 2 _ rfl
  have kl := HB2.out.lt
  simp only [cond_true]
  by_cases t1 : st < 0
  · have HE := Lib.hid (HNO.out (by omega))
    have d0 : decide (st < 0) = true := by simpa using t1
    go_wp2_with fail
    go_ret
    exact ⟨ret_int HE.out.symm, HK.out⟩
  have t1_0 : decide (st < 0) = false := by simpa using t1
  by_cases t2 : 1099494850560 < st
  · have HE := Lib.hid (HNO.out (by omega))
    have d0 : decide (1099494850560 < st) = true := by simpa using t2
    go_wp2_with fail
    go_ret
    exact ⟨ret_int HE.out.symm, HK.out⟩
  have t2_0 : decide (1099494850560 < st) = false := by simpa using t2
  by_cases t3 : so < 0
  · have HE := Lib.hid (HNO.out (by omega))
    have d0 : decide (so < 0) = true := by simpa using t3
    go_wp2_with fail
    go_ret
    exact ⟨ret_int HE.out.symm, HK.out⟩
  have t3_0 : decide (so < 0) = false := by simpa using t3
  by_cases t4 : 1048576 < so
  · have HE := Lib.hid (HNO.out (by omega))
    have d0 : decide (1048576 < so) = true := by simpa using t4
    go_wp2_with fail
    go_ret
    exact ⟨ret_int HE.out.symm, HK.out⟩
  have t4_0 : decide (1048576 < so) = false := by simpa using t4
  by_cases t5 : 8 < ds.length
  · have HE := Lib.hid (HNO.out (by omega))
    have d0 : decide ((8 : Int) < (ds.length : Int)) = true := by simp; omega
    have d1 : decide (8 < ds.length) = true := by simpa using t5
    go_wp2_with fail
    go_ret
    exact ⟨ret_int HE.out.symm, HK.out⟩
  have t5_0 : decide ((8 : Int) < (ds.length : Int)) = false := by simp; omega
  have t5_1 : decide (8 < ds.length) = false := by simpa using t5
  have HE := Lib.hid (HYES.out (by omega))
  have HY := Lib.hid (devsOk_yes wi ds)
  have HN := Lib.hid (devsOk_no wi ds)
  obtain ⟨G, hG⟩ : ∃ G, G = devsOk wi ds := ⟨_, rfl⟩
  rw [← hG] at HE HY HN
  clear hG
  go_wp2_with fail
  clear m0 m1 m2 m3 m4 m5 m6 m7 ml k0 k1 k2 kl
  go_loopw [6] (fun i wr => ∃ k : Nat, k ≤ ds.length ∧ i = .int .i64 k ∧ Hid (∀ i, i < k → devOk wi (ds.getD i 0) = true) ∧ Hid (Box wr w.heap.size 25 #[.int .i64 no, .int .i64 sl, .int .i64 ga, .int .i64 wi, .int .i64 dr, .int .i64 de, .slice ca cs.length cc, .slice ma mn mc]) ∧ Hid (Box wr (w.heap.size + 1) 28 #[.int .i64 st, .int .i64 so, .slice da ds.length dc]) ∧ Hid (Keeps w wr)) (fun i _ => ds.length - (intOf i).toNat)
  case atStart => exact ⟨0, by omega, rfl, fun i hi => absurd hi (by omega), HB1, HB2, HK⟩
  case round =>
    clear HB1 HB2 HK
    obtain ⟨k, hk, rfl, HI, HB1, HB2, HK⟩ := hrel
    have m3 := HB1.out.cell 3 _ rfl
    have ml := HB1.out.lt
    have k2 := HB2.out.cell 2 _ rfl
    have kl := HB2.out.lt
    by_cases hlt : k < ds.length
    · obtain ⟨b, off, rfl, hcc, -⟩ := (HDV.out.keeps HK.out).shapeAt (by omega)
      have hcell := hcc k hlt
      clear hcc
      have HNO2 := Lib.hid (HN.out k hlt)
      have HYES2 : Hid (devOk wi (ds.getD k 0) = true → ∀ i, i < k + 1 → devOk wi (ds.getD i 0) = true) := fun h i hik => by
        by_cases e : i = k
        · subst e; exact h
        · exact HI.out i (by omega)
      obtain ⟨d, hd⟩ : ∃ d, d = ds.getD k 0 := ⟨_, rfl⟩
      rw [← hd] at hcell HNO2 HYES2
      clear hd HI
      by_cases h1 : d < -wi
      · have e1 : decide (d < -wi) = true := by simpa using h1
        have HG := Lib.hid (HNO2.out (by unfold devOk; rw [decide_eq_false (by omega)]; rfl))
        go_wp2_with fail
        go_quiet (fail)
        go_wp2_with fail
        go_ret
        exact ⟨ret_int (by rw [HE.out, HG.out]; rfl), HK.out.drewN _⟩
      have e1 : decide (d < -wi) = false := by simpa using h1
      by_cases h2 : wi < d
      · have e2 : decide (wi < d) = true := by simpa using h2
        have HG := Lib.hid (HNO2.out (by unfold devOk; rw [decide_eq_false (show ¬ d ≤ wi by omega)]; simp))
        go_wp2_with fail
        go_quiet (fail)
        go_wp2_with fail
        go_ret
        exact ⟨ret_int (by rw [HE.out, HG.out]; rfl), HK.out.drewN _⟩
      have e2 : decide (wi < d) = false := by simpa using h2
      replace HYES2 := Lib.hid (HYES2.out (by unfold devOk; rw [decide_eq_true (show -wi ≤ d by omega), decide_eq_true (show d ≤ wi by omega)]; rfl))
      go_wp2_with fail
      go_quiet (fail)
      go_wp2_with fail
      go_roundw
      case rel => exact ⟨k + 1, by omega, by go_num, HYES2, HB1.out.keeps ((Keeps.refl _).drewN _), HB2.out.keeps ((Keeps.refl _).drewN _), HK.out.drewN _⟩
      case measure => simp [intOf]; omega
    · obtain rfl : k = ds.length := by omega
      have HG := Lib.hid (HY.out HI.out)
      go_wp2_with fail
      go_ret
      exact ⟨ret_int (by rw [HE.out, HG.out]; rfl), HK.out⟩
end Go.Proofs.Ytcophhdlcjemeaa
