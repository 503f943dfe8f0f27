/- The walks of layer 7, 6: Check. -/
import Derived.Test.YtmjodcackmjllaaM7
namespace Go.Proofs.Ytmjodcackmjllaa
open Go.RowKit Go.Shelf
set_option linter.unusedVariables false
set_option linter.unusedSimpArgs false
theorem medlOk_iff (m : RMedl) : medlOk m = true ↔ countsOk m = true ∧ modesOk m = true ∧ numsOk m = true := by simp only [medlOk, Bool.and_eq_true]
theorem medlErr_no {m : RMedl} (h : ¬ (countsOk m = true ∧ modesOk m = true ∧ numsOk m = true)) : medlErr m = 70 := by
  unfold medlErr
  rw [show medlOk m = false by rw [Bool.eq_false_iff, ne_eq, medlOk_iff]; exact h]
  rfl
theorem medlErr_yes {m : RMedl} (h : medlOk m = true) : medlErr m = 0 := by unfold medlErr; rw [h]; rfl
theorem medlErr_70 {m : RMedl} (h : medlOk m = false) : medlErr m = 70 := by unfold medlErr; rw [h]; rfl
theorem numsOk_iff (m : RMedl) : numsOk m = true ↔ (0 ≤ m.drift ∧ m.drift ≤ 64 ∧ 0 ≤ m.delay ∧ m.delay ≤ 64 ∧ m.window ≤ 1048576 ∧ m.gap ≤ 1048576 ∧ m.slot ≤ 16777216 ∧
  16 * m.nodes * m.drift + 16 ≤ m.window ∧ 2 * m.window + 2 * m.delay + 4 ≤ m.gap ∧ 2 * m.gap + m.mair ≤ m.slot) := by simp only [numsOk, decide_eq_true_eq]
theorem countsOk_iff (m : RMedl) : countsOk m = true ↔ (4 ≤ m.nodes ∧ m.nodes ≤ 8 ∧ 1 ≤ m.xs.length ∧ m.xs.length ≤ 4 ∧ (m.cs.length : Int) = m.nodes ∧ 2 ≤ truesTo m.cs m.cs.length) := by simp only [countsOk, decide_eq_true_eq]
set_option maxRecDepth 100000 in
set_option maxHeartbeats 1000000 in
theorem mcheck_any (m : RMedl) (w : World) (hm : m.In w) :
    Calls Try.prog 21 #[m.val] w fun e w' => e = .returned (.int .i64 (medlErr m)) ∧ Keeps w w' := by
  have HM := Lib.hid hm
  clear hm
  have hair : 34 ≤ m.mair ∧ m.mair ≤ 4000 := mairI_le _ _
  have HOK : Hid (countsOk m = true ∧ modesOk m = true ∧ numsOk m = true → medlErr m = 0) := Lib.hid (fun h => medlErr_yes ((medlOk_iff m).2 h))
  have HNO : Hid (¬ (countsOk m = true ∧ modesOk m = true ∧ numsOk m = true) → medlErr m = 70) := Lib.hid (fun h => medlErr_no h)
  have HC0 := Lib.hid (countsOk_iff m)
  have HN0 := Lib.hid (numsOk_iff m)
  have HCC := Lib.hid (counts_any m)
  have HCM := Lib.hid (hasModes_any m)
  have HCL := Lib.hid (least_any m)
  obtain ⟨E, hE⟩ : ∃ E, E = medlErr m := ⟨_, rfl⟩
  rw [← hE] at HOK HNO ⊢
  clear hE
  obtain ⟨N, hN⟩ : ∃ N, N = numsOk m := ⟨_, rfl⟩
  rw [← hN] at HOK HNO HN0
  clear hN
  obtain ⟨D, hD⟩ : ∃ D, D = modesOk m := ⟨_, rfl⟩
  rw [← hD] at HOK HNO HCM
  clear hD
  obtain ⟨C, hC⟩ : ∃ C, C = countsOk m := ⟨_, rfl⟩
  rw [← hC] at HOK HNO HCM HC0 HCC
  clear hC
  obtain ⟨A, hA⟩ : ∃ A, A = m.mair := ⟨_, rfl⟩
  rw [← hA] at HCL hair HN0
  clear hA
  obtain ⟨ca, cc, hcv, hc1, hc2, hc3⟩ := HM.out.c.shape
  clear hc3
  obtain ⟨no, sl, ga, wi, dr, de, cv, cs, ma, mn, mc, xs⟩ := m
  simp only at hcv hc1 HC0 HN0 HCL
  subst hcv
  show Calls Try.prog 21 #[.agg #[.int .i64 no, .int .i64 sl, .int .i64 ga, .int .i64 wi, .int .i64 dr, .int .i64 de, .slice ca cs.length cc, .slice ma mn mc]] w _
  have HB := Lib.hid (Box.new w 25 #[.int .i64 no, .int .i64 sl, .int .i64 ga, .int .i64 wi, .int .i64 dr, .int .i64 de, .slice ca cs.length cc, .slice ma mn mc])
  have HK := Lib.hid ((Keeps.refl w).alloc (.cells #[.int .i64 no, .int .i64 sl, .int .i64 ga, .int .i64 wi, .int .i64 dr, .int .i64 de, .slice ca cs.length cc, .slice ma mn mc] 25))
  go_enter Try.func21, Try.ntmps21
  go_wp2_with fail
  with_reducible refine (HCC.out _ (by exact HM.out.keeps HK.out)).mono ?_
  rintro e w1 ⟨rfl, hk1⟩
  replace HB := Lib.hid (HB.out.keeps hk1)
  replace HK := Lib.hid (HK.out.trans hk1)
  clear hk1 HCC
  have m0 := HB.out.cell 0 _ rfl
  have m1 := HB.out.cell 1 _ rfl
  have m2 := HB.out.cell 2 _ rfl
  have m3 := HB.out.cell 3 _ rfl
  have m4 := HB.out.cell 4 _ rfl
  have m5 := HB.out.cell 5 _ rfl
  have m6 := HB.out.cell 6 _ rfl
  have m7 := HB.out.cell 7 _ rfl
  have ml := HB.out.lt
  cases C
  · have HE := Lib.hid (HNO.out (by simp))
    go_wp2_with fail
    go_ret
    exact ⟨ret_int HE.out.symm, HK.out⟩
  replace HC0 := Lib.hid (HC0.out.1 rfl)
  have hn1 : 4 ≤ no := HC0.out.1
  have hn2 : no ≤ 8 := HC0.out.2.1
  go_wp2_with fail
  with_reducible refine (HCM.out w.heap.size _ (by exact HM.out.keeps HK.out) trivial (by exact HB.out)).mono ?_
  rintro e w2 ⟨rfl, hk1⟩
  clear HCM
  replace HB := Lib.hid (HB.out.keeps hk1)
  replace HK := Lib.hid (HK.out.trans hk1)
  clear hk1
  clear m0 m1 m2 m3 m4 m5 m6 m7 ml
  have m0 := HB.out.cell 0 _ rfl
  have m1 := HB.out.cell 1 _ rfl
  have m2 := HB.out.cell 2 _ rfl
  have m3 := HB.out.cell 3 _ rfl
  have m4 := HB.out.cell 4 _ rfl
  have m5 := HB.out.cell 5 _ rfl
  have m6 := HB.out.cell 6 _ rfl
  have m7 := HB.out.cell 7 _ rfl
  have ml := HB.out.lt
  cases D
  · have HE := Lib.hid (HNO.out (by simp))
    go_wp2_with fail
    go_ret
    exact ⟨ret_int HE.out.symm, HK.out⟩
  go_wp2_with fail
  with_reducible refine (within_any _ _ _ _).mono ?_
  rintro e v0 ⟨rfl, hk1⟩
  replace HB := Lib.hid (HB.out.keeps hk1)
  replace HK := Lib.hid (HK.out.trans hk1)
  clear hk1
  clear m0 m1 m2 m3 m4 m5 m6 m7 ml
  have m0 := HB.out.cell 0 _ rfl
  have m1 := HB.out.cell 1 _ rfl
  have m2 := HB.out.cell 2 _ rfl
  have m3 := HB.out.cell 3 _ rfl
  have m4 := HB.out.cell 4 _ rfl
  have m5 := HB.out.cell 5 _ rfl
  have m6 := HB.out.cell 6 _ rfl
  have m7 := HB.out.cell 7 _ rfl
  have ml := HB.out.lt
  obtain ⟨R0, hR0⟩ : ∃ R, R = withinB dr 0 64 := ⟨_, rfl⟩
  rw [← hR0]
  have HR0 := Lib.hid hR0
  clear hR0
  cases R0
  · have HE := Lib.hid (HNO.out (by
      rintro ⟨-, -, h⟩
      have h1 := HR0.out
      have h2 := HN0.out.1 h
      have h3 : ¬ (0 ≤ dr ∧ dr ≤ 64) := fun hh => by rw [(withinB_iff dr 0 64).2 hh] at h1; cases h1
      skip
      omega))
    go_wp2_with fail
    go_ret
    exact ⟨ret_int HE.out.symm, HK.out⟩
  have hb0 := (withinB_iff dr 0 64).1 HR0.out.symm
  clear HR0
  go_wp2_with fail
  with_reducible refine (within_any _ _ _ _).mono ?_
  rintro e v1 ⟨rfl, hk1⟩
  replace HB := Lib.hid (HB.out.keeps hk1)
  replace HK := Lib.hid (HK.out.trans hk1)
  clear hk1
  clear m0 m1 m2 m3 m4 m5 m6 m7 ml
  have m0 := HB.out.cell 0 _ rfl
  have m1 := HB.out.cell 1 _ rfl
  have m2 := HB.out.cell 2 _ rfl
  have m3 := HB.out.cell 3 _ rfl
  have m4 := HB.out.cell 4 _ rfl
  have m5 := HB.out.cell 5 _ rfl
  have m6 := HB.out.cell 6 _ rfl
  have m7 := HB.out.cell 7 _ rfl
  have ml := HB.out.lt
  obtain ⟨R1, hR1⟩ : ∃ R, R = withinB de 0 64 := ⟨_, rfl⟩
  rw [← hR1]
  have HR1 := Lib.hid hR1
  clear hR1
  cases R1
  · have HE := Lib.hid (HNO.out (by
      rintro ⟨-, -, h⟩
      have h1 := HR1.out
      have h2 := HN0.out.1 h
      have h3 : ¬ (0 ≤ de ∧ de ≤ 64) := fun hh => by rw [(withinB_iff de 0 64).2 hh] at h1; cases h1
      skip
      omega))
    go_wp2_with fail
    go_ret
    exact ⟨ret_int HE.out.symm, HK.out⟩
  have hb1 := (withinB_iff de 0 64).1 HR1.out.symm
  clear HR1
  go_wp2_with fail
  with_reducible refine (within_any _ _ _ _).mono ?_
  rintro e v2 ⟨rfl, hk1⟩
  replace HB := Lib.hid (HB.out.keeps hk1)
  replace HK := Lib.hid (HK.out.trans hk1)
  clear hk1
  clear m0 m1 m2 m3 m4 m5 m6 m7 ml
  have m0 := HB.out.cell 0 _ rfl
  have m1 := HB.out.cell 1 _ rfl
  have m2 := HB.out.cell 2 _ rfl
  have m3 := HB.out.cell 3 _ rfl
  have m4 := HB.out.cell 4 _ rfl
  have m5 := HB.out.cell 5 _ rfl
  have m6 := HB.out.cell 6 _ rfl
  have m7 := HB.out.cell 7 _ rfl
  have ml := HB.out.lt
  obtain ⟨R2, hR2⟩ : ∃ R, R = withinB wi 0 1048576 := ⟨_, rfl⟩
  rw [← hR2]
  have HR2 := Lib.hid hR2
  clear hR2
  cases R2
  · have HE := Lib.hid (HNO.out (by
      rintro ⟨-, -, h⟩
      have h1 := HR2.out
      have h2 := HN0.out.1 h
      have h3 : ¬ (0 ≤ wi ∧ wi ≤ 1048576) := fun hh => by rw [(withinB_iff wi 0 1048576).2 hh] at h1; cases h1
      have hp : 0 ≤ no * dr := Int.mul_nonneg (by omega) (by omega)
      rw [Int.mul_assoc] at h2
      omega))
    go_wp2_with fail
    go_ret
    exact ⟨ret_int HE.out.symm, HK.out⟩
  have hb2 := (withinB_iff wi 0 1048576).1 HR2.out.symm
  clear HR2
  go_wp2_with fail
  with_reducible refine (within_any _ _ _ _).mono ?_
  rintro e v3 ⟨rfl, hk1⟩
  replace HB := Lib.hid (HB.out.keeps hk1)
  replace HK := Lib.hid (HK.out.trans hk1)
  clear hk1
  clear m0 m1 m2 m3 m4 m5 m6 m7 ml
  have m0 := HB.out.cell 0 _ rfl
  have m1 := HB.out.cell 1 _ rfl
  have m2 := HB.out.cell 2 _ rfl
  have m3 := HB.out.cell 3 _ rfl
  have m4 := HB.out.cell 4 _ rfl
  have m5 := HB.out.cell 5 _ rfl
  have m6 := HB.out.cell 6 _ rfl
  have m7 := HB.out.cell 7 _ rfl
  have ml := HB.out.lt
  obtain ⟨R3, hR3⟩ : ∃ R, R = withinB ga 0 1048576 := ⟨_, rfl⟩
  rw [← hR3]
  have HR3 := Lib.hid hR3
  clear hR3
  cases R3
  · have HE := Lib.hid (HNO.out (by
      rintro ⟨-, -, h⟩
      have h1 := HR3.out
      have h2 := HN0.out.1 h
      have h3 : ¬ (0 ≤ ga ∧ ga ≤ 1048576) := fun hh => by rw [(withinB_iff ga 0 1048576).2 hh] at h1; cases h1
      have hp : 0 ≤ no * dr := Int.mul_nonneg (by omega) (by omega)
      rw [Int.mul_assoc] at h2
      omega))
    go_wp2_with fail
    go_ret
    exact ⟨ret_int HE.out.symm, HK.out⟩
  have hb3 := (withinB_iff ga 0 1048576).1 HR3.out.symm
  clear HR3
  go_wp2_with fail
  with_reducible refine (within_any _ _ _ _).mono ?_
  rintro e v4 ⟨rfl, hk1⟩
  replace HB := Lib.hid (HB.out.keeps hk1)
  replace HK := Lib.hid (HK.out.trans hk1)
  clear hk1
  clear m0 m1 m2 m3 m4 m5 m6 m7 ml
  have m0 := HB.out.cell 0 _ rfl
  have m1 := HB.out.cell 1 _ rfl
  have m2 := HB.out.cell 2 _ rfl
  have m3 := HB.out.cell 3 _ rfl
  have m4 := HB.out.cell 4 _ rfl
  have m5 := HB.out.cell 5 _ rfl
  have m6 := HB.out.cell 6 _ rfl
  have m7 := HB.out.cell 7 _ rfl
  have ml := HB.out.lt
  obtain ⟨R4, hR4⟩ : ∃ R, R = withinB sl 0 16777216 := ⟨_, rfl⟩
  rw [← hR4]
  have HR4 := Lib.hid hR4
  clear hR4
  cases R4
  · have HE := Lib.hid (HNO.out (by
      rintro ⟨-, -, h⟩
      have h1 := HR4.out
      have h2 := HN0.out.1 h
      have h3 : ¬ (0 ≤ sl ∧ sl ≤ 16777216) := fun hh => by rw [(withinB_iff sl 0 16777216).2 hh] at h1; cases h1
      have hp : 0 ≤ no * dr := Int.mul_nonneg (by omega) (by omega)
      rw [Int.mul_assoc] at h2
      omega))
    go_wp2_with fail
    go_ret
    exact ⟨ret_int HE.out.symm, HK.out⟩
  have hb4 := (withinB_iff sl 0 16777216).1 HR4.out.symm
  clear HR4
  obtain ⟨g1, g2⟩ := hb0
  obtain ⟨g3, g4⟩ := hb1
  obtain ⟨g5, g6⟩ := hb2
  obtain ⟨g7, g8⟩ := hb3
  obtain ⟨g9, g10⟩ := hb4
  go_wp2_with fail
  with_reducible refine (HCL.out _ (by exact HM.out.keeps HK.out) hn1 hn2 g1 g2 g3 g4 g5 g6 g7 g8).mono ?_
  rintro e w3 ⟨rfl, hk1⟩
  clear HCL
  replace HB := Lib.hid (HB.out.keeps hk1)
  replace HK := Lib.hid (HK.out.trans hk1)
  clear hk1
  clear m0 m1 m2 m3 m4 m5 m6 m7 ml
  have m0 := HB.out.cell 0 _ rfl
  have m1 := HB.out.cell 1 _ rfl
  have m2 := HB.out.cell 2 _ rfl
  have m3 := HB.out.cell 3 _ rfl
  have m4 := HB.out.cell 4 _ rfl
  have m5 := HB.out.cell 5 _ rfl
  have m6 := HB.out.cell 6 _ rfl
  have m7 := HB.out.cell 7 _ rfl
  have ml := HB.out.lt
  obtain ⟨P, hP⟩ : ∃ P, P = 16 * no * dr + 16 := ⟨_, rfl⟩
  rw [← hP] at HN0 ⊢
  clear hP
  by_cases h1 : wi < P
  · have hd : decide (wi < P) = true := by simpa using h1
    have HE := Lib.hid (HNO.out (by rintro ⟨-, -, h⟩; have h2 := HN0.out.1 h; omega))
    go_wp2_with fail
    go_ret
    exact ⟨ret_int HE.out.symm, HK.out⟩
  have hd1 : decide (wi < P) = false := by simpa using h1
  by_cases h2 : ga < 2 * wi + 2 * de + 4
  · have hd : decide (ga < 2 * wi + 2 * de + 4) = true := by simpa using h2
    have HE := Lib.hid (HNO.out (by rintro ⟨-, -, h⟩; have h2 := HN0.out.1 h; omega))
    go_wp2_with fail
    go_ret
    exact ⟨ret_int HE.out.symm, HK.out⟩
  have hd2 : decide (ga < 2 * wi + 2 * de + 4) = false := by simpa using h2
  by_cases h3 : sl < 2 * ga + A
  · have hd : decide (sl < 2 * ga + A) = true := by simpa using h3
    have HE := Lib.hid (HNO.out (by rintro ⟨-, -, h⟩; have h2 := HN0.out.1 h; omega))
    go_wp2_with fail
    go_ret
    exact ⟨ret_int HE.out.symm, HK.out⟩
  have hd3 : decide (sl < 2 * ga + A) = false := by simpa using h3
  have HE := Lib.hid (HOK.out ⟨trivial, trivial, HN0.out.2 (by omega)⟩)
  go_wp2_with fail
  go_ret
  exact ⟨ret_int HE.out.symm, HK.out⟩
end Go.Proofs.Ytmjodcackmjllaa
