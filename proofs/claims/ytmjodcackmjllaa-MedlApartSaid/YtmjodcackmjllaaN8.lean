/- The walk of MedlApart. -/
import Derived.Test.YtmjodcackmjllaaN7
namespace Go.Proofs.Ytmjodcackmjllaa
open Go.RowKit Go.Shelf
set_option linter.unusedVariables false
set_option linter.unusedSimpArgs false
theorem listen_lt {m : RMedl} {a : Int} (h : (listenRes m a).2 = 0) : medlOk m = true ∧ 0 ≤ a ∧ a < m.nodes ∧ listenRes m a = (4 * m.nodes + 2 * (a + 1), 0) ∧ retryRes m a = (2 * (a + 1), 0) := by
  unfold listenRes nodeErr at h
  cases h1 : medlOk m
  · rw [h1] at h; cases h
  cases h2 : nodeOk m a
  · rw [h1, h2] at h; cases h
  have h3 := h2
  unfold nodeOk at h3
  simp only [Bool.and_eq_true, decide_eq_true_eq] at h3
  refine ⟨rfl, h3.1, h3.2, ?_, ?_⟩
  · unfold listenRes; rw [h1, h2]; rfl
  · unfold retryRes; rw [h1, h2]; rfl
set_option maxRecDepth 100000 in
set_option maxHeartbeats 2000000 in
theorem medlApart_any (m : RMedl) (a b : Int) (w : World) (hm : m.In w) :
    Calls Try.prog 7 #[m.val, .int .i64 a, .int .i64 b] w fun e w' => e = .returned (.bool true) ∧ Keeps w w' := by
  have HM := Lib.hid hm
  clear hm
  have HN0 := Lib.hid (@medlOk_nums m)
  have HLA := Lib.hid (@listen_lt m a)
  have HLB := Lib.hid (@listen_lt m b)
  have H1 := Lib.hid (listen_any m a)
  have H2 := Lib.hid (listen_any m b)
  have H3 := Lib.hid (retry_any m a)
  have H4 := Lib.hid (retry_any m b)
  obtain ⟨⟨x, e⟩, hR1⟩ : ∃ R, R = listenRes m a := ⟨_, rfl⟩
  obtain ⟨⟨y, f⟩, hR2⟩ : ∃ R, R = listenRes m b := ⟨_, rfl⟩
  obtain ⟨⟨p, g⟩, hR3⟩ : ∃ R, R = retryRes m a := ⟨_, rfl⟩
  obtain ⟨⟨q, h⟩, hR4⟩ : ∃ R, R = retryRes m b := ⟨_, rfl⟩
  rw [← hR1] at H1 HLA
  rw [← hR2] at H2 HLB
  rw [← hR3] at H3 HLA
  rw [← hR4] at H4 HLB
  clear hR1 hR2 hR3 hR4
  obtain ⟨ca, cc, hcv, hc1, hc2, hc3⟩ := HM.out.c.shape
  clear hc3
  obtain ⟨no, sl, ga, wi, dr, de, cv, cs, ma, mn, mc, xs⟩ := m
  simp only [Prod.mk.injEq] at hcv hc1 HLA HLB HN0
  subst hcv
  have HK := Lib.hid ((Keeps.refl w).alloc (.cells #[.int .i64 no, .int .i64 sl, .int .i64 ga, .int .i64 wi, .int .i64 dr, .int .i64 de, .slice ca cs.length cc, .slice ma mn mc] 25))
  have HB := Lib.hid (Box.new w 25 #[.int .i64 no, .int .i64 sl, .int .i64 ga, .int .i64 wi, .int .i64 dr, .int .i64 de, .slice ca cs.length cc, .slice ma mn mc])
  show Calls Try.prog 7 #[.agg #[.int .i64 no, .int .i64 sl, .int .i64 ga, .int .i64 wi, .int .i64 dr, .int .i64 de, .slice ca cs.length cc, .slice ma mn mc], .int .i64 a, .int .i64 b] w _
  go_enter Try.func7, Try.ntmps7
  go_wp2_with fail
  with_reducible refine (H1.out _ (by exact HM.out.keeps HK.out)).mono ?_
  rintro ee w1 ⟨rfl, hk1⟩
  replace HB := Lib.hid (HB.out.keeps hk1)
  replace HK := Lib.hid (HK.out.trans hk1)
  clear hk1 H1
  have m0 := HB.out.cell 0 _ rfl
  have m1 := HB.out.cell 1 _ rfl
  have m2 := HB.out.cell 2 _ rfl
  have m3 := HB.out.cell 3 _ rfl
  have m4 := HB.out.cell 4 _ rfl
  have m5 := HB.out.cell 5 _ rfl
  have m6 := HB.out.cell 6 _ rfl
  have m7 := HB.out.cell 7 _ rfl
  have ml := HB.out.lt
  go_wp2_with fail
  with_reducible refine (H2.out _ (by exact HM.out.keeps HK.out)).mono ?_
  rintro ee w2 ⟨rfl, hk1⟩
  replace HB := Lib.hid (HB.out.keeps hk1)
  replace HK := Lib.hid (HK.out.trans hk1)
  clear hk1 H2 m0 m1 m2 m3 m4 m5 m6 m7 ml
  have m0 := HB.out.cell 0 _ rfl
  have m1 := HB.out.cell 1 _ rfl
  have m2 := HB.out.cell 2 _ rfl
  have m3 := HB.out.cell 3 _ rfl
  have m4 := HB.out.cell 4 _ rfl
  have m5 := HB.out.cell 5 _ rfl
  have m6 := HB.out.cell 6 _ rfl
  have m7 := HB.out.cell 7 _ rfl
  have ml := HB.out.lt
  go_wp2_with fail
  with_reducible refine (H3.out _ (by exact HM.out.keeps HK.out)).mono ?_
  rintro ee w3 ⟨rfl, hk1⟩
  replace HB := Lib.hid (HB.out.keeps hk1)
  replace HK := Lib.hid (HK.out.trans hk1)
  clear hk1 H3 m0 m1 m2 m3 m4 m5 m6 m7 ml
  have m0 := HB.out.cell 0 _ rfl
  have m1 := HB.out.cell 1 _ rfl
  have m2 := HB.out.cell 2 _ rfl
  have m3 := HB.out.cell 3 _ rfl
  have m4 := HB.out.cell 4 _ rfl
  have m5 := HB.out.cell 5 _ rfl
  have m6 := HB.out.cell 6 _ rfl
  have m7 := HB.out.cell 7 _ rfl
  have ml := HB.out.lt
  go_wp2_with fail
  with_reducible refine (H4.out _ (by exact HM.out.keeps HK.out)).mono ?_
  rintro ee w4 ⟨rfl, hk1⟩
  replace HB := Lib.hid (HB.out.keeps hk1)
  replace HK := Lib.hid (HK.out.trans hk1)
  clear hk1 H4 m0 m1 m2 m3 m4 m5 m6 m7 ml
  have m0 := HB.out.cell 0 _ rfl
  have m1 := HB.out.cell 1 _ rfl
  have m2 := HB.out.cell 2 _ rfl
  have m3 := HB.out.cell 3 _ rfl
  have m4 := HB.out.cell 4 _ rfl
  have m5 := HB.out.cell 5 _ rfl
  have m6 := HB.out.cell 6 _ rfl
  have m7 := HB.out.cell 7 _ rfl
  have ml := HB.out.lt
  go_wp2_with fail
  with_reducible refine (begun7_any _).mono ?_
  rintro ee w5 ⟨rfl, hk1⟩
  replace HB := Lib.hid (HB.out.keeps hk1)
  replace HK := Lib.hid (HK.out.trans hk1)
  clear hk1 m0 m1 m2 m3 m4 m5 m6 m7 ml
  have m0 := HB.out.cell 0 _ rfl
  have m1 := HB.out.cell 1 _ rfl
  have m2 := HB.out.cell 2 _ rfl
  have m3 := HB.out.cell 3 _ rfl
  have m4 := HB.out.cell 4 _ rfl
  have m5 := HB.out.cell 5 _ rfl
  have m6 := HB.out.cell 6 _ rfl
  have m7 := HB.out.cell 7 _ rfl
  have ml := HB.out.lt
  by_cases he : e = 0
  case neg =>
    have d1 : (e != 0) = true := by rw [bne_iff_ne]; exact he
    clear HLA HLB
    go_wp2_with fail
    with_reducible refine (begun7_any _).mono ?_
    rintro ee w6 ⟨rfl, hk1⟩
    replace HK := Lib.hid (HK.out.trans hk1)
    clear hk1
    go_wp2_with fail
    go_ret
    exact ⟨rfl, HK.out⟩
  have d1 : (e != 0) = false := by rw [bne_eq_false_iff_eq]; exact he
  by_cases hf : f = 0
  case neg =>
    have d2 : (f != 0) = true := by rw [bne_iff_ne]; exact hf
    clear HLA HLB
    go_wp2_with fail
    with_reducible refine (begun7_any _).mono ?_
    rintro ee w6 ⟨rfl, hk1⟩
    replace HK := Lib.hid (HK.out.trans hk1)
    clear hk1
    go_wp2_with fail
    go_ret
    exact ⟨rfl, HK.out⟩
  have d2 : (f != 0) = false := by rw [bne_eq_false_iff_eq]; exact hf
  obtain ⟨hok, a1, a2, ⟨rfl, rfl⟩, ⟨rfl, rfl⟩⟩ := HLA.out he
  obtain ⟨-, b1, b2, ⟨rfl, rfl⟩, ⟨rfl, rfl⟩⟩ := HLB.out hf
  have hn := HN0.out hok
  clear HLA HLB HN0 he hf hok d1 d2
  by_cases hab : a = b
  · subst hab
    have t1 : decide (2 * (a + 1) + no < 4 * no + 2 * (a + 1)) = true := by simp; omega
    go_wp2_with fail
    go_ret
    exact ⟨rfl, HK.out⟩
  · have t0 : (a == b) = false := by rw [beq_eq_false_iff_ne]; exact hab
    have t1 : decide (2 * (b + 1) + no < 4 * no + 2 * (a + 1)) = true := by simp; omega
    have t2 : decide (2 * (a + 1) + no < 4 * no + 2 * (b + 1)) = true := by simp; omega
    have t3 : (4 * no + 2 * (a + 1) == 4 * no + 2 * (b + 1)) = false := by rw [beq_eq_false_iff_ne]; omega
    have t4 : (2 * (a + 1) == 2 * (b + 1)) = false := by rw [beq_eq_false_iff_ne]; omega
    go_wp2_with fail
    go_ret
    exact ⟨rfl, HK.out⟩
end Go.Proofs.Ytmjodcackmjllaa
