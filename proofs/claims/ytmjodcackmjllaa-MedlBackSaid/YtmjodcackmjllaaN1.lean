/- The walks of layer 7, 7: what follows of a list. -/
import Derived.Test.YtmjodcackmjllaaM8
import Derived.Test.YtmjodcackmjllaaM0
namespace Go.Proofs.Ytmjodcackmjllaa
open Go.RowKit Go.Shelf
set_option linter.unusedVariables false
set_option linter.unusedSimpArgs false

theorem medlOk_nums {m : RMedl} (h : medlOk m = true) : 4 ≤ m.nodes ∧ m.nodes ≤ 8 ∧ 0 ≤ m.window ∧ m.window ≤ 1048576 ∧ 0 ≤ m.gap ∧ m.gap ≤ 1048576 ∧ 0 ≤ m.slot ∧ m.slot ≤ 16777216 ∧ 0 ≤ m.drift ∧ m.drift ≤ 64 ∧ 0 ≤ m.delay ∧ m.delay ≤ 64 := by
  obtain ⟨h1, -, h3⟩ := (medlOk_iff m).1 h
  have a := (countsOk_iff m).1 h1
  have b := (numsOk_iff m).1 h3
  have c : 34 ≤ m.mair ∧ m.mair ≤ 4000 := mairI_le _ _
  have hp : 0 ≤ m.nodes * m.drift := Int.mul_nonneg (by omega) (by omega)
  rw [Int.mul_assoc] at b
  omega
theorem medlErr_cond (m : RMedl) : medlErr m = cond (medlOk m) 0 70 := rfl
/-- the numbers that follow of a list -/
def precRes (m : RMedl) : Int × Int := cond (medlOk m) (14 * (m.nodes * m.drift) + 8, 0) (0, 70)
def boundRes (m : RMedl) : Int × Int := cond (medlOk m) (40 * m.nodes, 0) (0, 70)
def nodeOk (m : RMedl) (n : Int) : Bool := decide (0 ≤ n) && decide (n < m.nodes)
def nodeErr (m : RMedl) (n : Int) : Int := cond (medlOk m) (cond (nodeOk m n) 0 2) 70
def retryRes (m : RMedl) (n : Int) : Int × Int := cond (medlOk m && nodeOk m n) (2 * (n + 1), 0) (0, nodeErr m n)
def listenRes (m : RMedl) (n : Int) : Int × Int := cond (medlOk m && nodeOk m n) (4 * m.nodes + 2 * (n + 1), 0) (0, nodeErr m n)
abbrev pairVal (r : Int × Int) : Value := .tuple #[.int .i64 r.1, .int .i64 r.2]
set_option maxRecDepth 100000 in
set_option maxHeartbeats 1000000 in
theorem prec_any (m : RMedl) (w : World) (hm : m.In w) :
    Calls Try.prog 22 #[m.val] w fun e w' => e = .returned (pairVal (precRes m)) ∧ Keeps w w' := by
  have HM := Lib.hid hm
  clear hm
  have HOK := Lib.hid (@medlOk_nums m)
  have HCH := Lib.hid (mcheck_any m)
  rw [medlErr_cond] at HCH
  have HR : Hid (precRes m = cond (medlOk m) (14 * (m.nodes * m.drift) + 8, 0) (0, 70)) := Lib.hid rfl
  obtain ⟨R, hR⟩ : ∃ R, R = precRes m := ⟨_, rfl⟩
  rw [← hR] at HR ⊢
  clear hR
  obtain ⟨A, hA⟩ : ∃ A, A = medlOk m := ⟨_, rfl⟩
  rw [← hA] at HR HCH HOK
  clear hA
  obtain ⟨ca, cc, hcv, hc1, hc2, hc3⟩ := HM.out.c.shape
  clear hc3
  obtain ⟨no, sl, ga, wi, dr, de, cv, cs, ma, mn, mc, xs⟩ := m
  simp only at hcv hc1 HOK HCH
  subst hcv
  have HK := Lib.hid ((Keeps.refl w).alloc (.cells #[.int .i64 no, .int .i64 sl, .int .i64 ga, .int .i64 wi, .int .i64 dr, .int .i64 de, .slice ca cs.length cc, .slice ma mn mc] 25))
  have HB := Lib.hid (Box.new w 25 #[.int .i64 no, .int .i64 sl, .int .i64 ga, .int .i64 wi, .int .i64 dr, .int .i64 de, .slice ca cs.length cc, .slice ma mn mc])
  show Calls Try.prog 22 #[.agg #[.int .i64 no, .int .i64 sl, .int .i64 ga, .int .i64 wi, .int .i64 dr, .int .i64 de, .slice ca cs.length cc, .slice ma mn mc]] w _
  go_enter Try.func22, Try.ntmps22
  go_wp2_with fail
  with_reducible refine (HCH.out _ (by exact HM.out.keeps HK.out)).mono ?_
  rintro e w1 ⟨rfl, hk1⟩
  replace HB := Lib.hid (HB.out.keeps hk1)
  replace HK := Lib.hid (HK.out.trans hk1)
  clear hk1
  have m0 := HB.out.cell 0 _ rfl
  have m1 := HB.out.cell 1 _ rfl
  have m2 := HB.out.cell 2 _ rfl
  have m3 := HB.out.cell 3 _ rfl
  have m4 := HB.out.cell 4 _ rfl
  have m5 := HB.out.cell 5 _ rfl
  have m6 := HB.out.cell 6 _ rfl
  have m7 := HB.out.cell 7 _ rfl
  have ml := HB.out.lt
  cases A
  · simp only [cond_false]
    go_wp2_with fail
    go_ret2
    exact ⟨by rw [HR.out]; rfl, HK.out⟩
  · have hn := HOK.out (by first | rfl | trivial)
    simp only [cond_true]
    have hnd : 0 ≤ no * dr := Int.mul_nonneg (by omega) (by omega)
    have hnd2 : no * dr ≤ 8 * 64 := Int.mul_le_mul (by omega) (by omega) (by omega) (by omega)
    have hnd3 : 14 * no * dr = 14 * (no * dr) := Int.mul_assoc _ _ _
    have hw1 : IntKind.i64.wrap (14 * no) = 14 * no := by simp [IntKind.wrap, IntKind.bits, IntKind.signed]; omega
    have hw2 : IntKind.i64.wrap (14 * no * dr) = 14 * (no * dr) := by rw [hnd3]; simp [IntKind.wrap, IntKind.bits, IntKind.signed]; omega
    have hw3 : IntKind.i64.wrap (14 * (no * dr) + 8) = 14 * (no * dr) + 8 := by simp [IntKind.wrap, IntKind.bits, IntKind.signed]; omega
    go_wp2_with fail
    go_ret2
    exact ⟨by rw [HR.out]; rfl, HK.out⟩
set_option maxRecDepth 100000 in
set_option maxHeartbeats 1000000 in
theorem bound_any (m : RMedl) (w : World) (hm : m.In w) :
    Calls Try.prog 47 #[m.val] w fun e w' => e = .returned (pairVal (boundRes m)) ∧ Keeps w w' := by
  have HM := Lib.hid hm
  clear hm
  have HOK := Lib.hid (@medlOk_nums m)
  have HCH := Lib.hid (mcheck_any m)
  rw [medlErr_cond] at HCH
  have HR : Hid (boundRes m = cond (medlOk m) (40 * m.nodes, 0) (0, 70)) := Lib.hid rfl
  obtain ⟨R, hR⟩ : ∃ R, R = boundRes m := ⟨_, rfl⟩
  rw [← hR] at HR ⊢
  clear hR
  obtain ⟨A, hA⟩ : ∃ A, A = medlOk m := ⟨_, rfl⟩
  rw [← hA] at HR HCH HOK
  clear hA
  obtain ⟨ca, cc, hcv, hc1, hc2, hc3⟩ := HM.out.c.shape
  clear hc3
  obtain ⟨no, sl, ga, wi, dr, de, cv, cs, ma, mn, mc, xs⟩ := m
  simp only at hcv hc1 HOK HCH
  subst hcv
  have HK := Lib.hid ((Keeps.refl w).alloc (.cells #[.int .i64 no, .int .i64 sl, .int .i64 ga, .int .i64 wi, .int .i64 dr, .int .i64 de, .slice ca cs.length cc, .slice ma mn mc] 25))
  have HB := Lib.hid (Box.new w 25 #[.int .i64 no, .int .i64 sl, .int .i64 ga, .int .i64 wi, .int .i64 dr, .int .i64 de, .slice ca cs.length cc, .slice ma mn mc])
  show Calls Try.prog 47 #[.agg #[.int .i64 no, .int .i64 sl, .int .i64 ga, .int .i64 wi, .int .i64 dr, .int .i64 de, .slice ca cs.length cc, .slice ma mn mc]] w _
  go_enter Try.func47, Try.ntmps47
  go_wp2_with fail
  with_reducible refine (HCH.out _ (by exact HM.out.keeps HK.out)).mono ?_
  rintro e w1 ⟨rfl, hk1⟩
  replace HB := Lib.hid (HB.out.keeps hk1)
  replace HK := Lib.hid (HK.out.trans hk1)
  clear hk1
  have m0 := HB.out.cell 0 _ rfl
  have m1 := HB.out.cell 1 _ rfl
  have m2 := HB.out.cell 2 _ rfl
  have m3 := HB.out.cell 3 _ rfl
  have m4 := HB.out.cell 4 _ rfl
  have m5 := HB.out.cell 5 _ rfl
  have m6 := HB.out.cell 6 _ rfl
  have m7 := HB.out.cell 7 _ rfl
  have ml := HB.out.lt
  cases A
  · simp only [cond_false]
    go_wp2_with fail
    go_ret2
    exact ⟨by rw [HR.out]; rfl, HK.out⟩
  · have hn := HOK.out (by first | rfl | trivial)
    simp only [cond_true]
    have hw1 : IntKind.i64.wrap (40 * no) = 40 * no := by simp [IntKind.wrap, IntKind.bits, IntKind.signed]; omega
    go_wp2_with fail
    go_ret2
    exact ⟨by rw [HR.out]; rfl, HK.out⟩
set_option maxRecDepth 100000 in
set_option maxHeartbeats 1000000 in
theorem cnode_any (m : RMedl) (n : Int) (w : World) (hm : m.In w) :
    Calls Try.prog 66 #[m.val, .int .i64 n] w fun e w' => e = .returned (.int .i64 (nodeErr m n)) ∧ Keeps w w' := by
  have HM := Lib.hid hm
  clear hm
  have HOK := Lib.hid (@medlOk_nums m)
  have HCH := Lib.hid (mcheck_any m)
  rw [medlErr_cond] at HCH
  have HR : Hid (nodeErr m n = cond (medlOk m) (cond (decide (0 ≤ n) && decide (n < m.nodes)) 0 2) 70) := Lib.hid rfl
  obtain ⟨R, hR⟩ : ∃ R, R = nodeErr m n := ⟨_, rfl⟩
  rw [← hR] at HR ⊢
  clear hR
  obtain ⟨A, hA⟩ : ∃ A, A = medlOk m := ⟨_, rfl⟩
  rw [← hA] at HR HCH HOK
  clear hA
  obtain ⟨ca, cc, hcv, hc1, hc2, hc3⟩ := HM.out.c.shape
  clear hc3
  obtain ⟨no, sl, ga, wi, dr, de, cv, cs, ma, mn, mc, xs⟩ := m
  simp only at hcv hc1 HOK HCH
  subst hcv
  have HK := Lib.hid ((Keeps.refl w).alloc (.cells #[.int .i64 no, .int .i64 sl, .int .i64 ga, .int .i64 wi, .int .i64 dr, .int .i64 de, .slice ca cs.length cc, .slice ma mn mc] 25))
  have HB := Lib.hid (Box.new w 25 #[.int .i64 no, .int .i64 sl, .int .i64 ga, .int .i64 wi, .int .i64 dr, .int .i64 de, .slice ca cs.length cc, .slice ma mn mc])
  show Calls Try.prog 66 #[.agg #[.int .i64 no, .int .i64 sl, .int .i64 ga, .int .i64 wi, .int .i64 dr, .int .i64 de, .slice ca cs.length cc, .slice ma mn mc], .int .i64 n] w _
  simp only at HR
  go_enter Try.func66, Try.ntmps66
  go_wp2_with fail
  with_reducible refine (HCH.out _ (by exact HM.out.keeps HK.out)).mono ?_
  rintro e w1 ⟨rfl, hk1⟩
  replace HB := Lib.hid (HB.out.keeps hk1)
  replace HK := Lib.hid (HK.out.trans hk1)
  clear hk1
  have m0 := HB.out.cell 0 _ rfl
  have m1 := HB.out.cell 1 _ rfl
  have m2 := HB.out.cell 2 _ rfl
  have m3 := HB.out.cell 3 _ rfl
  have m4 := HB.out.cell 4 _ rfl
  have m5 := HB.out.cell 5 _ rfl
  have m6 := HB.out.cell 6 _ rfl
  have m7 := HB.out.cell 7 _ rfl
  have ml := HB.out.lt
  cases A
  · simp only [cond_false]
    go_wp2_with fail
    go_ret
    exact ⟨ret_int HR.out.symm, HK.out⟩
  have hn := HOK.out (by first | rfl | trivial)
  simp only [cond_true]
  go_wp2_with fail
  with_reducible refine (within_any _ _ _ _).mono ?_
  rintro e w2 ⟨rfl, hk1⟩
  replace HB := Lib.hid (HB.out.keeps hk1)
  replace HK := Lib.hid (HK.out.trans hk1)
  clear hk1
  have HE : Hid (R = cond (withinB n 0 (no - 1)) 0 2) := Lib.hid (by
    rw [HR.out, show withinB n 0 (no - 1) = (decide (0 ≤ n) && decide (n < no)) by unfold withinB; rw [show decide (n ≤ no - 1) = decide (n < no) by rw [decide_eq_decide]; omega]]
    rfl)
  obtain ⟨G, hG⟩ : ∃ G, G = withinB n 0 (no - 1) := ⟨_, rfl⟩
  rw [← hG] at HE ⊢
  clear hG
  cases G
  all_goals
    go_wp2_with fail
    go_ret
    exact ⟨ret_int HE.out.symm, HK.out⟩
set_option maxRecDepth 100000 in
set_option maxHeartbeats 1000000 in
theorem retry_any (m : RMedl) (n : Int) (w : World) (hm : m.In w) :
    Calls Try.prog 26 #[m.val, .int .i64 n] w fun e w' => e = .returned (pairVal (retryRes m n)) ∧ Keeps w w' := by
  have HM := Lib.hid hm
  clear hm
  have HOK := Lib.hid (@medlOk_nums m)
  have HCH := Lib.hid (cnode_any m n)
  have HR : Hid (retryRes m n = cond (medlOk m && (decide (0 ≤ n) && decide (n < m.nodes))) (2 * (n + 1), 0) (0, nodeErr m n)) := Lib.hid rfl
  have HE : Hid (nodeErr m n = cond (medlOk m) (cond (decide (0 ≤ n) && decide (n < m.nodes)) 0 2) 70) := Lib.hid rfl
  obtain ⟨R, hR⟩ : ∃ R, R = retryRes m n := ⟨_, rfl⟩
  rw [← hR] at HR ⊢
  clear hR
  rw [HE.out] at HCH HR
  clear HE
  obtain ⟨A, hA⟩ : ∃ A, A = medlOk m := ⟨_, rfl⟩
  rw [← hA] at HR HCH HOK
  clear hA
  obtain ⟨ca, cc, hcv, hc1, hc2, hc3⟩ := HM.out.c.shape
  clear hc3
  obtain ⟨no, sl, ga, wi, dr, de, cv, cs, ma, mn, mc, xs⟩ := m
  simp only at hcv hc1 HOK HCH
  subst hcv
  have HK := Lib.hid ((Keeps.refl w).alloc (.cells #[.int .i64 no, .int .i64 sl, .int .i64 ga, .int .i64 wi, .int .i64 dr, .int .i64 de, .slice ca cs.length cc, .slice ma mn mc] 25))
  have HB := Lib.hid (Box.new w 25 #[.int .i64 no, .int .i64 sl, .int .i64 ga, .int .i64 wi, .int .i64 dr, .int .i64 de, .slice ca cs.length cc, .slice ma mn mc])
  show Calls Try.prog 26 #[.agg #[.int .i64 no, .int .i64 sl, .int .i64 ga, .int .i64 wi, .int .i64 dr, .int .i64 de, .slice ca cs.length cc, .slice ma mn mc], .int .i64 n] w _
  simp only at HR
  by_cases hq : 0 ≤ n ∧ n < no
  case neg =>
    have hd : (decide (0 ≤ n) && decide (n < no)) = false := by rw [Bool.eq_false_iff, ne_eq, Bool.and_eq_true, decide_eq_true_eq, decide_eq_true_eq]; exact hq
    rw [hd] at HR HCH
    clear hd hq
    cases A
    all_goals
      go_enter Try.func26, Try.ntmps26
      go_wp2_with fail
      with_reducible refine (HCH.out _ (by exact HM.out.keeps HK.out)).mono ?_
      rintro e w1 ⟨rfl, hk1⟩
      replace HB := Lib.hid (HB.out.keeps hk1)
      replace HK := Lib.hid (HK.out.trans hk1)
      clear hk1
      simp only [cond_false, cond_true]
      go_wp2_with fail
      go_ret2
      exact ⟨by rw [HR.out]; rfl, HK.out⟩
  have hd : (decide (0 ≤ n) && decide (n < no)) = true := by rw [Bool.and_eq_true, decide_eq_true_eq, decide_eq_true_eq]; exact hq
  rw [hd] at HR HCH
  clear hd
  cases A
  · go_enter Try.func26, Try.ntmps26
    go_wp2_with fail
    with_reducible refine (HCH.out _ (by exact HM.out.keeps HK.out)).mono ?_
    rintro e w1 ⟨rfl, hk1⟩
    replace HB := Lib.hid (HB.out.keeps hk1)
    replace HK := Lib.hid (HK.out.trans hk1)
    clear hk1
    simp only [cond_false, cond_true]
    go_wp2_with fail
    go_ret2
    exact ⟨by rw [HR.out]; rfl, HK.out⟩
  have hn := HOK.out (by first | rfl | trivial)
  go_enter Try.func26, Try.ntmps26
  go_wp2_with fail
  with_reducible refine (HCH.out _ (by exact HM.out.keeps HK.out)).mono ?_
  rintro e w1 ⟨rfl, hk1⟩
  replace HB := Lib.hid (HB.out.keeps hk1)
  replace HK := Lib.hid (HK.out.trans hk1)
  clear hk1
  have m0 := HB.out.cell 0 _ rfl
  have m1 := HB.out.cell 1 _ rfl
  have m2 := HB.out.cell 2 _ rfl
  have m3 := HB.out.cell 3 _ rfl
  have m4 := HB.out.cell 4 _ rfl
  have m5 := HB.out.cell 5 _ rfl
  have m6 := HB.out.cell 6 _ rfl
  have m7 := HB.out.cell 7 _ rfl
  have ml := HB.out.lt
  simp only [cond_true]
  go_wp2_with fail
  go_ret2
  exact ⟨by rw [HR.out]; rfl, HK.out⟩
set_option maxRecDepth 100000 in
set_option maxHeartbeats 1000000 in
theorem listen_any (m : RMedl) (n : Int) (w : World) (hm : m.In w) :
    Calls Try.prog 25 #[m.val, .int .i64 n] w fun e w' => e = .returned (pairVal (listenRes m n)) ∧ Keeps w w' := by
  have HM := Lib.hid hm
  clear hm
  have HOK := Lib.hid (@medlOk_nums m)
  have HCH := Lib.hid (retry_any m n)
  have HR : Hid (listenRes m n = cond (medlOk m && (decide (0 ≤ n) && decide (n < m.nodes))) (4 * m.nodes + 2 * (n + 1), 0) (0, nodeErr m n)) := Lib.hid rfl
  have HQ : Hid (retryRes m n = cond (medlOk m && (decide (0 ≤ n) && decide (n < m.nodes))) (2 * (n + 1), 0) (0, nodeErr m n)) := Lib.hid rfl
  have HE : Hid (nodeErr m n = cond (medlOk m) (cond (decide (0 ≤ n) && decide (n < m.nodes)) 0 2) 70) := Lib.hid rfl
  obtain ⟨R, hR⟩ : ∃ R, R = listenRes m n := ⟨_, rfl⟩
  rw [← hR] at HR ⊢
  clear hR
  rw [HE.out] at HQ HR
  rw [HQ.out] at HCH
  clear HE HQ
  obtain ⟨A, hA⟩ : ∃ A, A = medlOk m := ⟨_, rfl⟩
  rw [← hA] at HR HCH HOK
  clear hA
  obtain ⟨ca, cc, hcv, hc1, hc2, hc3⟩ := HM.out.c.shape
  clear hc3
  obtain ⟨no, sl, ga, wi, dr, de, cv, cs, ma, mn, mc, xs⟩ := m
  simp only at hcv hc1 HOK HCH
  subst hcv
  have HK := Lib.hid ((Keeps.refl w).alloc (.cells #[.int .i64 no, .int .i64 sl, .int .i64 ga, .int .i64 wi, .int .i64 dr, .int .i64 de, .slice ca cs.length cc, .slice ma mn mc] 25))
  have HB := Lib.hid (Box.new w 25 #[.int .i64 no, .int .i64 sl, .int .i64 ga, .int .i64 wi, .int .i64 dr, .int .i64 de, .slice ca cs.length cc, .slice ma mn mc])
  show Calls Try.prog 25 #[.agg #[.int .i64 no, .int .i64 sl, .int .i64 ga, .int .i64 wi, .int .i64 dr, .int .i64 de, .slice ca cs.length cc, .slice ma mn mc], .int .i64 n] w _
  simp only at HR
  by_cases hq : 0 ≤ n ∧ n < no
  case neg =>
    have hd : (decide (0 ≤ n) && decide (n < no)) = false := by rw [Bool.eq_false_iff, ne_eq, Bool.and_eq_true, decide_eq_true_eq, decide_eq_true_eq]; exact hq
    rw [hd] at HR HCH
    clear hd hq
    cases A
    all_goals
      go_enter Try.func25, Try.ntmps25
      go_wp2_with fail
      with_reducible refine (HCH.out _ (by exact HM.out.keeps HK.out)).mono ?_
      rintro e w1 ⟨rfl, hk1⟩
      replace HK := Lib.hid (HK.out.trans hk1)
      clear hk1
      simp only [cond_false, cond_true, Bool.and_false, Bool.and_true]
      go_wp2_with fail
      go_ret2
      exact ⟨by rw [HR.out]; rfl, HK.out⟩
  have hd : (decide (0 ≤ n) && decide (n < no)) = true := by rw [Bool.and_eq_true, decide_eq_true_eq, decide_eq_true_eq]; exact hq
  rw [hd] at HR HCH
  clear hd
  cases A
  · go_enter Try.func25, Try.ntmps25
    go_wp2_with fail
    with_reducible refine (HCH.out _ (by exact HM.out.keeps HK.out)).mono ?_
    rintro e w1 ⟨rfl, hk1⟩
    replace HK := Lib.hid (HK.out.trans hk1)
    clear hk1
    simp only [cond_false, cond_true, Bool.and_true]
    go_wp2_with fail
    go_ret2
    exact ⟨by rw [HR.out]; rfl, HK.out⟩
  have hn := HOK.out (by first | rfl | trivial)
  go_enter Try.func25, Try.ntmps25
  go_wp2_with fail
  with_reducible refine (HCH.out _ (by exact HM.out.keeps HK.out)).mono ?_
  rintro e w1 ⟨rfl, hk1⟩
  replace HB := Lib.hid (HB.out.keeps hk1)
  replace HK := Lib.hid (HK.out.trans hk1)
  clear hk1
  have m0 := HB.out.cell 0 _ rfl
  have m1 := HB.out.cell 1 _ rfl
  have m2 := HB.out.cell 2 _ rfl
  have m3 := HB.out.cell 3 _ rfl
  have m4 := HB.out.cell 4 _ rfl
  have m5 := HB.out.cell 5 _ rfl
  have m6 := HB.out.cell 6 _ rfl
  have m7 := HB.out.cell 7 _ rfl
  have ml := HB.out.lt
  simp only [cond_true, Bool.and_true]
  go_wp2_with fail
  go_ret2
  exact ⟨by rw [HR.out]; rfl, HK.out⟩
end Go.Proofs.Ytmjodcackmjllaa
