/- The walk of MedlRoom. -/
import Derived.Test.YtmjodcackmjllaaN7
import Derived.Test.YtmjodcackmjllaaN10
namespace Go.Proofs.Ytmjodcackmjllaa
open Go.RowKit Go.Shelf
set_option linter.unusedVariables false
set_option linter.unusedSimpArgs false
theorem air_room {m : RMedl} {k n : Int} (h : (airRes m k n).2 = 0) : medlOk m = true ∧ (airRes m k n).1 ≤ m.mair ∧ 0 ≤ (airRes m k n).1 := by
  unfold airRes nodeErr at h
  cases h1 : medlOk m
  · rw [h1] at h; cases h
  cases h2 : nodeOk m n
  · rw [h1, h2] at h; cases h
  cases h3 : modeIn m k
  · rw [h1, h2, h3] at h; cases h
  refine ⟨rfl, ?_, ?_⟩
  · unfold airRes; rw [h1, h2, h3]; exact air_le_mair h1 k n h3 h2
  · unfold airRes; rw [h1, h2, h3]; exact (airI_le _).1
theorem room_nums {m : RMedl} (h : medlOk m = true) : 2 * m.gap + m.mair ≤ m.slot ∧ 16 * (m.nodes * m.drift) + 16 ≤ m.window ∧ 2 * m.window + 2 * m.delay + 4 ≤ m.gap ∧ 0 ≤ m.nodes * m.drift ∧ m.nodes * m.drift ≤ 8 * 64 ∧ precRes m = (14 * (m.nodes * m.drift) + 8, 0) := by
  have hn := medlOk_nums h
  obtain ⟨-, -, h3⟩ := (medlOk_iff m).1 h
  have b := (numsOk_iff m).1 h3
  rw [Int.mul_assoc] at b
  have hp : 0 ≤ m.nodes * m.drift := Int.mul_nonneg (by omega) (by omega)
  have hp2 : m.nodes * m.drift ≤ 8 * 64 := Int.mul_le_mul (by omega) (by omega) (by omega) (by omega)
  refine ⟨by omega, by omega, by omega, hp, hp2, ?_⟩
  unfold precRes; rw [h]; rfl
set_option maxRecDepth 100000 in
set_option maxHeartbeats 2000000 in
theorem medlRoom_any (m : RMedl) (k n : Int) (ap : Nat) (w : World) (hm : m.In w) (hap : ap < 4294967296) :
    Calls Try.prog 9 #[m.val, .int .i64 k, .int .i64 n, .int .u32 ap] w fun e w' => e = .returned (.bool true) ∧ Keeps w w' := by
  have HM := Lib.hid hm
  clear hm
  have HN0 := Lib.hid (@medlOk_nums m)
  have HRM := Lib.hid (@room_nums m)
  have HAR := Lib.hid (@air_room m k n)
  have H1 := Lib.hid (airF_any m k n)
  have H2 := Lib.hid (prec_any m)
  have H3 := Lib.hid (mair_any m)
  obtain ⟨⟨x, e⟩, hR1⟩ : ∃ R, R = airRes m k n := ⟨_, rfl⟩
  obtain ⟨⟨y, f⟩, hR2⟩ : ∃ R, R = precRes m := ⟨_, rfl⟩
  obtain ⟨A, hA⟩ : ∃ A, A = m.mair := ⟨_, rfl⟩
  have hair : 34 ≤ m.mair ∧ m.mair ≤ 4000 := mairI_le _ _
  rw [← hR1] at H1 HAR
  rw [← hR2] at H2 HRM
  rw [← hA] at HAR HRM H3 hair
  clear hR1 hR2 hA
  obtain ⟨ca, cc, hcv, hc1, hc2, hc3⟩ := HM.out.c.shape
  clear hc3
  obtain ⟨no, sl, ga, wi, dr, de, cv, cs, ma, mn, mc, xs⟩ := m
  simp only [Prod.mk.injEq] at hcv hc1 HN0 HRM HAR
  subst hcv
  have HK := Lib.hid ((Keeps.refl w).alloc (.cells #[.int .i64 no, .int .i64 sl, .int .i64 ga, .int .i64 wi, .int .i64 dr, .int .i64 de, .slice ca cs.length cc, .slice ma mn mc] 25))
  have HB := Lib.hid (Box.new w 25 #[.int .i64 no, .int .i64 sl, .int .i64 ga, .int .i64 wi, .int .i64 dr, .int .i64 de, .slice ca cs.length cc, .slice ma mn mc])
  show Calls Try.prog 9 #[.agg #[.int .i64 no, .int .i64 sl, .int .i64 ga, .int .i64 wi, .int .i64 dr, .int .i64 de, .slice ca cs.length cc, .slice ma mn mc], .int .i64 k, .int .i64 n, .int .u32 ap] w _
  go_enter Try.func9, Try.ntmps9
  go_wp2_with fail
  with_reducible refine (H1.out _ (by exact HM.out.keeps HK.out)).mono ?_
  rintro ee w1 ⟨rfl, hk1⟩
  replace HB := Lib.hid (HB.out.keeps hk1)
  replace HK := Lib.hid (HK.out.trans hk1)
  clear hk1 H1
  have m0 := HB.out.cell 0 _ rfl
  have m1 := HB.out.cell 1 _ rfl
  have m2 := HB.out.cell 2 _ rfl
  have m3 := HB.out.cell 3 _ rfl
  have m4 := HB.out.cell 4 _ rfl
  have m5 := HB.out.cell 5 _ rfl
  have m6 := HB.out.cell 6 _ rfl
  have m7 := HB.out.cell 7 _ rfl
  have ml := HB.out.lt
  go_wp2_with fail
  with_reducible refine (H2.out _ (by exact HM.out.keeps HK.out)).mono ?_
  rintro ee w2 ⟨rfl, hk1⟩
  replace HB := Lib.hid (HB.out.keeps hk1)
  replace HK := Lib.hid (HK.out.trans hk1)
  clear hk1 H2 m0 m1 m2 m3 m4 m5 m6 m7 ml
  have m0 := HB.out.cell 0 _ rfl
  have m1 := HB.out.cell 1 _ rfl
  have m2 := HB.out.cell 2 _ rfl
  have m3 := HB.out.cell 3 _ rfl
  have m4 := HB.out.cell 4 _ rfl
  have m5 := HB.out.cell 5 _ rfl
  have m6 := HB.out.cell 6 _ rfl
  have m7 := HB.out.cell 7 _ rfl
  have ml := HB.out.lt
  go_wp2_with fail
  with_reducible refine (begun7_any _).mono ?_
  rintro ee w3 ⟨rfl, hk1⟩
  replace HB := Lib.hid (HB.out.keeps hk1)
  replace HK := Lib.hid (HK.out.trans hk1)
  clear hk1
  clear m0 m1 m2 m3 m4 m5 m6 m7 ml
  have m0 := HB.out.cell 0 _ rfl
  have m1 := HB.out.cell 1 _ rfl
  have m2 := HB.out.cell 2 _ rfl
  have m3 := HB.out.cell 3 _ rfl
  have m4 := HB.out.cell 4 _ rfl
  have m5 := HB.out.cell 5 _ rfl
  have m6 := HB.out.cell 6 _ rfl
  have m7 := HB.out.cell 7 _ rfl
  have ml := HB.out.lt
  by_cases he : e = 0
  case neg =>
    have d1 : (e != 0) = true := by rw [bne_iff_ne]; exact he
    clear HAR HRM HN0
    go_wp2_with fail
    with_reducible refine (begun7_any _).mono ?_
    rintro ee w4 ⟨rfl, hk1⟩
    replace HB := Lib.hid (HB.out.keeps hk1)
    replace HK := Lib.hid (HK.out.trans hk1)
    clear hk1
    clear m0 m1 m2 m3 m4 m5 m6 m7 ml
    go_wp2_with fail
    go_ret
    exact ⟨rfl, HK.out⟩
  have dde : (e != 0) = false := by rw [bne_eq_false_iff_eq]; exact he
  by_cases hf : f = 0
  case neg =>
    have d1 : (f != 0) = true := by rw [bne_iff_ne]; exact hf
    clear HAR HRM HN0
    go_wp2_with fail
    with_reducible refine (begun7_any _).mono ?_
    rintro ee w4 ⟨rfl, hk1⟩
    replace HB := Lib.hid (HB.out.keeps hk1)
    replace HK := Lib.hid (HK.out.trans hk1)
    clear hk1
    clear m0 m1 m2 m3 m4 m5 m6 m7 ml
    go_wp2_with fail
    go_ret
    exact ⟨rfl, HK.out⟩
  have ddf : (f != 0) = false := by rw [bne_eq_false_iff_eq]; exact hf
  obtain ⟨hok, r1, r2⟩ := HAR.out he
  have hn := HN0.out hok
  obtain ⟨s1, s2, s3, s4, s5, ⟨hy, -⟩⟩ := HRM.out hok
  clear HAR HRM HN0 hok
  subst hy
  have hm0 := Int.emod_nonneg (ap : Int) (show (14 * (no * dr) + 8 + 1 : Int) ≠ 0 by omega)
  have hm1 := Int.emod_lt_of_pos (ap : Int) (show (0 : Int) < 14 * (no * dr) + 8 + 1 by omega)
  obtain ⟨D, hD⟩ : ∃ D, D = (ap : Int) % (14 * (no * dr) + 8 + 1) := ⟨_, rfl⟩
  rw [← hD] at hm0 hm1
  have hDw : D ≤ wi := by omega
  have q0 : (ap : Int) % (14 * (no * dr) + 8 + 1) = D := hD.symm
  clear hD hm0 hm1
  have q1 : decide (D ≤ wi) = true := by simpa using hDw
  have q2 : decide (wi + de ≤ ga) = true := by simp; omega
  have q3 : decide (x ≤ A) = true := by simpa using r1
  have q4 : decide (ga + x ≤ sl - ga) = true := by simp; omega
  go_wp2_with fail
  with_reducible refine (H3.out _ (by exact HM.out.keeps HK.out)).mono ?_
  rintro ee w4 ⟨rfl, hk1⟩
  replace HB := Lib.hid (HB.out.keeps hk1)
  replace HK := Lib.hid (HK.out.trans hk1)
  clear hk1 H3 m0 m1 m2 m3 m4 m5 m6 m7 ml
  have m0 := HB.out.cell 0 _ rfl
  have m1 := HB.out.cell 1 _ rfl
  have m2 := HB.out.cell 2 _ rfl
  have m3 := HB.out.cell 3 _ rfl
  have m4 := HB.out.cell 4 _ rfl
  have m5 := HB.out.cell 5 _ rfl
  have m6 := HB.out.cell 6 _ rfl
  have m7 := HB.out.cell 7 _ rfl
  have ml := HB.out.lt
  go_wp2_with fail
  go_ret
  exact ⟨rfl, HK.out⟩
end Go.Proofs.Ytmjodcackmjllaa
