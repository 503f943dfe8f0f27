/- The walks of the reference of layer 7, 5: what follows of a list. -/
import Derived.Test.YtmjodcackmjllaaM8
import Derived.Test.YtmjodcackmjllaaN1
import Derived.Test.YtmjodcackmjllaaM10
namespace Go.Proofs.Ytmjodcackmjllaa
open Go.RowKit Go.Shelf
set_option linter.unusedVariables false
set_option linter.unusedSimpArgs false
set_option maxRecDepth 100000 in
set_option maxHeartbeats 1000000 in
theorem rprec_any (m : RMedl) (w : World) (hm : m.In w) :
    Calls Try.prog 44 #[m.val] w fun e w' => e = .returned (pairVal (precRes m)) ∧ Keeps w w' := by
  have HM := Lib.hid hm
  clear hm
  have HOK := Lib.hid (@medlOk_nums m)
  have HCH := Lib.hid (rmcheck_any m)
  rw [medlErr_cond] at HCH
  have HR : Hid (precRes m = cond (medlOk m) (14 * (m.nodes * m.drift) + 8, 0) (0, 70)) := Lib.hid rfl
  obtain ⟨R, hR⟩ : ∃ R, R = precRes m := ⟨_, rfl⟩
  rw [← hR] at HR ⊢
  clear hR
  obtain ⟨A, hA⟩ : ∃ A, A = medlOk m := ⟨_, rfl⟩
  rw [← hA] at HR HCH HOK
  clear hA
  obtain ⟨ca, cc, hcv, hc1, hc2, hc3⟩ := HM.out.c.shape
  clear hc3
  obtain ⟨no, sl, ga, wi, dr, de, cv, cs, ma, mn, mc, xs⟩ := m
  simp only at hcv hc1 HOK HCH
  subst hcv
  have HK := Lib.hid ((Keeps.refl w).alloc (.cells #[.int .i64 no, .int .i64 sl, .int .i64 ga, .int .i64 wi, .int .i64 dr, .int .i64 de, .slice ca cs.length cc, .slice ma mn mc] 25))
  have HB := Lib.hid (Box.new w 25 #[.int .i64 no, .int .i64 sl, .int .i64 ga, .int .i64 wi, .int .i64 dr, .int .i64 de, .slice ca cs.length cc, .slice ma mn mc])
  show Calls Try.prog 44 #[.agg #[.int .i64 no, .int .i64 sl, .int .i64 ga, .int .i64 wi, .int .i64 dr, .int .i64 de, .slice ca cs.length cc, .slice ma mn mc]] w _
  go_enter Try.func44, Try.ntmps44
  go_wp2_with fail
  with_reducible refine (HCH.out _ (by exact HM.out.keeps HK.out)).mono ?_
  rintro e w1 ⟨rfl, hk1⟩
  replace HB := Lib.hid (HB.out.keeps hk1)
  replace HK := Lib.hid (HK.out.trans hk1)
  clear hk1
  have m0 := HB.out.cell 0 _ rfl
  have m1 := HB.out.cell 1 _ rfl
  have m2 := HB.out.cell 2 _ rfl
  have m3 := HB.out.cell 3 _ rfl
  have m4 := HB.out.cell 4 _ rfl
  have m5 := HB.out.cell 5 _ rfl
  have m6 := HB.out.cell 6 _ rfl
  have m7 := HB.out.cell 7 _ rfl
  have ml := HB.out.lt
  cases A
  · simp only [cond_false]
    go_wp2_with fail
    go_ret2
    exact ⟨by rw [HR.out]; rfl, HK.out⟩
  · have hn := HOK.out (by first | rfl | trivial)
    simp only [cond_true]
    have hnd : 0 ≤ no * dr := Int.mul_nonneg (by omega) (by omega)
    have hnd2 : no * dr ≤ 8 * 64 := Int.mul_le_mul (by omega) (by omega) (by omega) (by omega)
    have hnd3 : 14 * no * dr = 14 * (no * dr) := Int.mul_assoc _ _ _
    have hw1 : IntKind.i64.wrap (14 * no) = 14 * no := by simp [IntKind.wrap, IntKind.bits, IntKind.signed]; omega
    have hw2 : IntKind.i64.wrap (14 * no * dr) = 14 * (no * dr) := by rw [hnd3]; simp [IntKind.wrap, IntKind.bits, IntKind.signed]; omega
    have hw3 : IntKind.i64.wrap (14 * (no * dr) + 8) = 14 * (no * dr) + 8 := by simp [IntKind.wrap, IntKind.bits, IntKind.signed]; omega
    go_wp2_with fail
    go_ret2
    exact ⟨by rw [HR.out]; rfl, HK.out⟩
set_option maxRecDepth 100000 in
set_option maxHeartbeats 1000000 in
theorem rbound_any (m : RMedl) (w : World) (hm : m.In w) :
    Calls Try.prog 48 #[m.val] w fun e w' => e = .returned (pairVal (boundRes m)) ∧ Keeps w w' := by
  have HM := Lib.hid hm
  clear hm
  have HOK := Lib.hid (@medlOk_nums m)
  have HCH := Lib.hid (rmcheck_any m)
  rw [medlErr_cond] at HCH
  have HR : Hid (boundRes m = cond (medlOk m) (40 * m.nodes, 0) (0, 70)) := Lib.hid rfl
  obtain ⟨R, hR⟩ : ∃ R, R = boundRes m := ⟨_, rfl⟩
  rw [← hR] at HR ⊢
  clear hR
  obtain ⟨A, hA⟩ : ∃ A, A = medlOk m := ⟨_, rfl⟩
  rw [← hA] at HR HCH HOK
  clear hA
  obtain ⟨ca, cc, hcv, hc1, hc2, hc3⟩ := HM.out.c.shape
  clear hc3
  obtain ⟨no, sl, ga, wi, dr, de, cv, cs, ma, mn, mc, xs⟩ := m
  simp only at hcv hc1 HOK HCH
  subst hcv
  have HK := Lib.hid ((Keeps.refl w).alloc (.cells #[.int .i64 no, .int .i64 sl, .int .i64 ga, .int .i64 wi, .int .i64 dr, .int .i64 de, .slice ca cs.length cc, .slice ma mn mc] 25))
  have HB := Lib.hid (Box.new w 25 #[.int .i64 no, .int .i64 sl, .int .i64 ga, .int .i64 wi, .int .i64 dr, .int .i64 de, .slice ca cs.length cc, .slice ma mn mc])
  show Calls Try.prog 48 #[.agg #[.int .i64 no, .int .i64 sl, .int .i64 ga, .int .i64 wi, .int .i64 dr, .int .i64 de, .slice ca cs.length cc, .slice ma mn mc]] w _
  go_enter Try.func48, Try.ntmps48
  go_wp2_with fail
  with_reducible refine (HCH.out _ (by exact HM.out.keeps HK.out)).mono ?_
  rintro e w1 ⟨rfl, hk1⟩
  replace HB := Lib.hid (HB.out.keeps hk1)
  replace HK := Lib.hid (HK.out.trans hk1)
  clear hk1
  have m0 := HB.out.cell 0 _ rfl
  have m1 := HB.out.cell 1 _ rfl
  have m2 := HB.out.cell 2 _ rfl
  have m3 := HB.out.cell 3 _ rfl
  have m4 := HB.out.cell 4 _ rfl
  have m5 := HB.out.cell 5 _ rfl
  have m6 := HB.out.cell 6 _ rfl
  have m7 := HB.out.cell 7 _ rfl
  have ml := HB.out.lt
  cases A
  · simp only [cond_false]
    go_wp2_with fail
    go_ret2
    exact ⟨by rw [HR.out]; rfl, HK.out⟩
  · have hn := HOK.out (by first | rfl | trivial)
    simp only [cond_true]
    have hw1 : IntKind.i64.wrap (40 * no) = 40 * no := by simp [IntKind.wrap, IntKind.bits, IntKind.signed]; omega
    go_wp2_with fail
    go_ret2
    exact ⟨by rw [HR.out]; rfl, HK.out⟩
set_option maxRecDepth 100000 in
set_option maxHeartbeats 1000000 in
theorem rnode_any (m : RMedl) (n : Int) (w : World) (hm : m.In w) :
    Calls Try.prog 85 #[m.val, .int .i64 n] w fun e w' => e = .returned (.int .i64 (nodeErr m n)) ∧ Keeps w w' := by
  have HM := Lib.hid hm
  clear hm
  have HOK := Lib.hid (@medlOk_nums m)
  have HCH := Lib.hid (rmcheck_any m)
  rw [medlErr_cond] at HCH
  have HR : Hid (nodeErr m n = cond (medlOk m) (cond (decide (0 ≤ n) && decide (n < m.nodes)) 0 2) 70) := Lib.hid rfl
  obtain ⟨R, hR⟩ : ∃ R, R = nodeErr m n := ⟨_, rfl⟩
  rw [← hR] at HR ⊢
  clear hR
  obtain ⟨A, hA⟩ : ∃ A, A = medlOk m := ⟨_, rfl⟩
  rw [← hA] at HR HCH HOK
  clear hA
  obtain ⟨ca, cc, hcv, hc1, hc2, hc3⟩ := HM.out.c.shape
  clear hc3
  obtain ⟨no, sl, ga, wi, dr, de, cv, cs, ma, mn, mc, xs⟩ := m
  simp only at hcv hc1 HOK HCH
  subst hcv
  have HK := Lib.hid ((Keeps.refl w).alloc (.cells #[.int .i64 no, .int .i64 sl, .int .i64 ga, .int .i64 wi, .int .i64 dr, .int .i64 de, .slice ca cs.length cc, .slice ma mn mc] 25))
  have HB := Lib.hid (Box.new w 25 #[.int .i64 no, .int .i64 sl, .int .i64 ga, .int .i64 wi, .int .i64 dr, .int .i64 de, .slice ca cs.length cc, .slice ma mn mc])
  show Calls Try.prog 85 #[.agg #[.int .i64 no, .int .i64 sl, .int .i64 ga, .int .i64 wi, .int .i64 dr, .int .i64 de, .slice ca cs.length cc, .slice ma mn mc], .int .i64 n] w _
  simp only at HR
  go_enter Try.func85, Try.ntmps85
  go_wp2_with fail
  with_reducible refine (HCH.out _ (by exact HM.out.keeps HK.out)).mono ?_
  rintro e w1 ⟨rfl, hk1⟩
  replace HB := Lib.hid (HB.out.keeps hk1)
  replace HK := Lib.hid (HK.out.trans hk1)
  clear hk1
  have m0 := HB.out.cell 0 _ rfl
  have m1 := HB.out.cell 1 _ rfl
  have m2 := HB.out.cell 2 _ rfl
  have m3 := HB.out.cell 3 _ rfl
  have m4 := HB.out.cell 4 _ rfl
  have m5 := HB.out.cell 5 _ rfl
  have m6 := HB.out.cell 6 _ rfl
  have m7 := HB.out.cell 7 _ rfl
  have ml := HB.out.lt
  cases A
  · simp only [cond_false]
    go_wp2_with fail
    go_ret
    exact ⟨ret_int HR.out.symm, HK.out⟩
  have hn := HOK.out (by first | rfl | trivial)
  simp only [cond_true]
  by_cases t1 : n < 0
  · have d1 : decide (n < 0) = true := by simpa using t1
    go_wp2_with fail
    go_ret
    exact ⟨ret_int (by rw [HR.out, decide_eq_false (by omega)]; rfl), HK.out⟩
  have d1 : decide (n < 0) = false := by simpa using t1
  by_cases t2 : no ≤ n
  · have d2 : decide (no ≤ n) = true := by simpa using t2
    go_wp2_with fail
    go_ret
    exact ⟨ret_int (by rw [HR.out, decide_eq_false (show ¬ n < no by omega)]; simp), HK.out⟩
  have d2 : decide (no ≤ n) = false := by simpa using t2
  go_wp2_with fail
  go_ret
  exact ⟨ret_int (by rw [HR.out, decide_eq_true (show 0 ≤ n by omega), decide_eq_true (show n < no by omega)]; rfl), HK.out⟩
set_option maxRecDepth 100000 in
set_option maxHeartbeats 1000000 in
theorem rretry_any (m : RMedl) (n : Int) (w : World) (hm : m.In w) :
    Calls Try.prog 46 #[m.val, .int .i64 n] w fun e w' => e = .returned (pairVal (retryRes m n)) ∧ Keeps w w' := by
  have HM := Lib.hid hm
  clear hm
  have HOK := Lib.hid (@medlOk_nums m)
  have HCH := Lib.hid (rnode_any m n)
  have HR : Hid (retryRes m n = cond (medlOk m && (decide (0 ≤ n) && decide (n < m.nodes))) (2 * (n + 1), 0) (0, nodeErr m n)) := Lib.hid rfl
  have HE : Hid (nodeErr m n = cond (medlOk m) (cond (decide (0 ≤ n) && decide (n < m.nodes)) 0 2) 70) := Lib.hid rfl
  obtain ⟨R, hR⟩ : ∃ R, R = retryRes m n := ⟨_, rfl⟩
  rw [← hR] at HR ⊢
  clear hR
  rw [HE.out] at HCH HR
  clear HE
  obtain ⟨A, hA⟩ : ∃ A, A = medlOk m := ⟨_, rfl⟩
  rw [← hA] at HR HCH HOK
  clear hA
  obtain ⟨ca, cc, hcv, hc1, hc2, hc3⟩ := HM.out.c.shape
  clear hc3
  obtain ⟨no, sl, ga, wi, dr, de, cv, cs, ma, mn, mc, xs⟩ := m
  simp only at hcv hc1 HOK HCH
  subst hcv
  have HK := Lib.hid ((Keeps.refl w).alloc (.cells #[.int .i64 no, .int .i64 sl, .int .i64 ga, .int .i64 wi, .int .i64 dr, .int .i64 de, .slice ca cs.length cc, .slice ma mn mc] 25))
  have HB := Lib.hid (Box.new w 25 #[.int .i64 no, .int .i64 sl, .int .i64 ga, .int .i64 wi, .int .i64 dr, .int .i64 de, .slice ca cs.length cc, .slice ma mn mc])
  show Calls Try.prog 46 #[.agg #[.int .i64 no, .int .i64 sl, .int .i64 ga, .int .i64 wi, .int .i64 dr, .int .i64 de, .slice ca cs.length cc, .slice ma mn mc], .int .i64 n] w _
  simp only at HR
  by_cases hq : 0 ≤ n ∧ n < no
  case neg =>
    have hd : (decide (0 ≤ n) && decide (n < no)) = false := by rw [Bool.eq_false_iff, ne_eq, Bool.and_eq_true, decide_eq_true_eq, decide_eq_true_eq]; exact hq
    rw [hd] at HR HCH
    clear hd hq
    cases A
    all_goals
      go_enter Try.func46, Try.ntmps46
      go_wp2_with fail
      with_reducible refine (HCH.out _ (by exact HM.out.keeps HK.out)).mono ?_
      rintro e w1 ⟨rfl, hk1⟩
      replace HB := Lib.hid (HB.out.keeps hk1)
      replace HK := Lib.hid (HK.out.trans hk1)
      clear hk1
      simp only [cond_false, cond_true]
      go_wp2_with fail
      go_ret2
      exact ⟨by rw [HR.out]; rfl, HK.out⟩
  have hd : (decide (0 ≤ n) && decide (n < no)) = true := by rw [Bool.and_eq_true, decide_eq_true_eq, decide_eq_true_eq]; exact hq
  rw [hd] at HR HCH
  clear hd
  cases A
  · go_enter Try.func46, Try.ntmps46
    go_wp2_with fail
    with_reducible refine (HCH.out _ (by exact HM.out.keeps HK.out)).mono ?_
    rintro e w1 ⟨rfl, hk1⟩
    replace HB := Lib.hid (HB.out.keeps hk1)
    replace HK := Lib.hid (HK.out.trans hk1)
    clear hk1
    simp only [cond_false, cond_true]
    go_wp2_with fail
    go_ret2
    exact ⟨by rw [HR.out]; rfl, HK.out⟩
  have hn := HOK.out (by first | rfl | trivial)
  go_enter Try.func46, Try.ntmps46
  go_wp2_with fail
  with_reducible refine (HCH.out _ (by exact HM.out.keeps HK.out)).mono ?_
  rintro e w1 ⟨rfl, hk1⟩
  replace HB := Lib.hid (HB.out.keeps hk1)
  replace HK := Lib.hid (HK.out.trans hk1)
  clear hk1
  have m0 := HB.out.cell 0 _ rfl
  have m1 := HB.out.cell 1 _ rfl
  have m2 := HB.out.cell 2 _ rfl
  have m3 := HB.out.cell 3 _ rfl
  have m4 := HB.out.cell 4 _ rfl
  have m5 := HB.out.cell 5 _ rfl
  have m6 := HB.out.cell 6 _ rfl
  have m7 := HB.out.cell 7 _ rfl
  have ml := HB.out.lt
  simp only [cond_true]
  go_wp2_with fail
  go_ret2
  exact ⟨by rw [HR.out]; rfl, HK.out⟩
set_option maxRecDepth 100000 in
set_option maxHeartbeats 1000000 in
theorem rlisten_any (m : RMedl) (n : Int) (w : World) (hm : m.In w) :
    Calls Try.prog 45 #[m.val, .int .i64 n] w fun e w' => e = .returned (pairVal (listenRes m n)) ∧ Keeps w w' := by
  have HM := Lib.hid hm
  clear hm
  have HOK := Lib.hid (@medlOk_nums m)
  have HCH := Lib.hid (rnode_any m n)
  have HR : Hid (listenRes m n = cond (medlOk m && (decide (0 ≤ n) && decide (n < m.nodes))) (4 * m.nodes + 2 * (n + 1), 0) (0, nodeErr m n)) := Lib.hid rfl
  have HE : Hid (nodeErr m n = cond (medlOk m) (cond (decide (0 ≤ n) && decide (n < m.nodes)) 0 2) 70) := Lib.hid rfl
  obtain ⟨R, hR⟩ : ∃ R, R = listenRes m n := ⟨_, rfl⟩
  rw [← hR] at HR ⊢
  clear hR
  rw [HE.out] at HCH HR
  clear HE
  obtain ⟨A, hA⟩ : ∃ A, A = medlOk m := ⟨_, rfl⟩
  rw [← hA] at HR HCH HOK
  clear hA
  obtain ⟨ca, cc, hcv, hc1, hc2, hc3⟩ := HM.out.c.shape
  clear hc3
  obtain ⟨no, sl, ga, wi, dr, de, cv, cs, ma, mn, mc, xs⟩ := m
  simp only at hcv hc1 HOK HCH
  subst hcv
  have HK := Lib.hid ((Keeps.refl w).alloc (.cells #[.int .i64 no, .int .i64 sl, .int .i64 ga, .int .i64 wi, .int .i64 dr, .int .i64 de, .slice ca cs.length cc, .slice ma mn mc] 25))
  have HB := Lib.hid (Box.new w 25 #[.int .i64 no, .int .i64 sl, .int .i64 ga, .int .i64 wi, .int .i64 dr, .int .i64 de, .slice ca cs.length cc, .slice ma mn mc])
  show Calls Try.prog 45 #[.agg #[.int .i64 no, .int .i64 sl, .int .i64 ga, .int .i64 wi, .int .i64 dr, .int .i64 de, .slice ca cs.length cc, .slice ma mn mc], .int .i64 n] w _
  simp only at HR
  by_cases hq : 0 ≤ n ∧ n < no
  case neg =>
    have hd : (decide (0 ≤ n) && decide (n < no)) = false := by rw [Bool.eq_false_iff, ne_eq, Bool.and_eq_true, decide_eq_true_eq, decide_eq_true_eq]; exact hq
    rw [hd] at HR HCH
    clear hd hq
    cases A
    all_goals
      go_enter Try.func45, Try.ntmps45
      go_wp2_with fail
      with_reducible refine (HCH.out _ (by exact HM.out.keeps HK.out)).mono ?_
      rintro e w1 ⟨rfl, hk1⟩
      replace HB := Lib.hid (HB.out.keeps hk1)
      replace HK := Lib.hid (HK.out.trans hk1)
      clear hk1
      simp only [cond_false, cond_true]
      go_wp2_with fail
      go_ret2
      exact ⟨by rw [HR.out]; rfl, HK.out⟩
  have hd : (decide (0 ≤ n) && decide (n < no)) = true := by rw [Bool.and_eq_true, decide_eq_true_eq, decide_eq_true_eq]; exact hq
  rw [hd] at HR HCH
  clear hd
  cases A
  · go_enter Try.func45, Try.ntmps45
    go_wp2_with fail
    with_reducible refine (HCH.out _ (by exact HM.out.keeps HK.out)).mono ?_
    rintro e w1 ⟨rfl, hk1⟩
    replace HB := Lib.hid (HB.out.keeps hk1)
    replace HK := Lib.hid (HK.out.trans hk1)
    clear hk1
    simp only [cond_false, cond_true]
    go_wp2_with fail
    go_ret2
    exact ⟨by rw [HR.out]; rfl, HK.out⟩
  have hn := HOK.out (by first | rfl | trivial)
  go_enter Try.func45, Try.ntmps45
  go_wp2_with fail
  with_reducible refine (HCH.out _ (by exact HM.out.keeps HK.out)).mono ?_
  rintro e w1 ⟨rfl, hk1⟩
  replace HB := Lib.hid (HB.out.keeps hk1)
  replace HK := Lib.hid (HK.out.trans hk1)
  clear hk1
  have m0 := HB.out.cell 0 _ rfl
  have m1 := HB.out.cell 1 _ rfl
  have m2 := HB.out.cell 2 _ rfl
  have m3 := HB.out.cell 3 _ rfl
  have m4 := HB.out.cell 4 _ rfl
  have m5 := HB.out.cell 5 _ rfl
  have m6 := HB.out.cell 6 _ rfl
  have m7 := HB.out.cell 7 _ rfl
  have ml := HB.out.lt
  simp only [cond_true]
  go_wp2_with fail
  go_ret2
  exact ⟨by rw [HR.out]; rfl, HK.out⟩
end Go.Proofs.Ytmjodcackmjllaa
