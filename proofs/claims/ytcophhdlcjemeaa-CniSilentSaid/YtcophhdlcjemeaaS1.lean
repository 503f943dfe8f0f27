/- The walks of layer 6: spans, on both sides. -/
import Derived.Test.YtcophhdlcjemeaaNums
import Derived.Test.YtcophhdlcjemeaaBase2
namespace Go.Proofs.Ytcophhdlcjemeaa
open Go.RowKit
set_option linter.unusedVariables false
set_option linter.unusedSimpArgs false
def spanOk (a b : Int) : Bool := decide (0 ≤ a) && (decide (a ≤ b) && decide (b ≤ 1099511627776))
theorem spanOk_iff (a b : Int) : spanOk a b = true ↔ 0 ≤ a ∧ a ≤ b ∧ b ≤ 1099511627776 := by simp only [spanOk, Bool.and_eq_true, decide_eq_true_eq]
theorem spanOk_no {a b : Int} (h : ¬ (0 ≤ a ∧ a ≤ b ∧ b ≤ 1099511627776)) : spanOk a b = false := by rw [Bool.eq_false_iff, ne_eq, spanOk_iff]; exact h
def spanBoth (a b c d : Int) : Bool := spanOk a b && spanOk c d
def spanMeets (a b c d : Int) : Bool := (spanOk a b && spanOk c d) && (decide (a < d) && (decide (c < b) && (decide (a < b) && decide (c < d))))
def spanIn (a b c d : Int) : Bool := (spanOk a b && spanOk c d) && (decide (c ≤ a) && decide (b ≤ d))
set_option maxRecDepth 100000 in
theorem scheck_any (a b : Int) (w : World) : Calls Try.prog 75 #[.agg #[.int .i64 a, .int .i64 b]] w fun e w' => e = .returned (.int .i64 (cond (spanOk a b) 0 60)) ∧ Keeps w w' := by
  by_cases t1 : a < 0
  · have d1 : decide (a < 0) = true := by simpa using t1
    have HE := Lib.hid (spanOk_no (a := a) (b := b) (by omega))
    go_enter Try.func75, Try.ntmps75
    go_wp2_with fail
    go_ret
    exact ⟨ret_int (by rw [HE.out]; rfl), (Keeps.refl _).alloc _⟩
  have t1_0 : decide (a < 0) = false := by simpa using t1
  by_cases t2 : b < a
  · have d1 : decide (b < a) = true := by simpa using t2
    have HE := Lib.hid (spanOk_no (a := a) (b := b) (by omega))
    go_enter Try.func75, Try.ntmps75
    go_wp2_with fail
    go_ret
    exact ⟨ret_int (by rw [HE.out]; rfl), (Keeps.refl _).alloc _⟩
  have t2_0 : decide (b < a) = false := by simpa using t2
  by_cases t3 : 1099511627776 < b
  · have d1 : decide (1099511627776 < b) = true := by simpa using t3
    have HE := Lib.hid (spanOk_no (a := a) (b := b) (by omega))
    go_enter Try.func75, Try.ntmps75
    go_wp2_with fail
    go_ret
    exact ⟨ret_int (by rw [HE.out]; rfl), (Keeps.refl _).alloc _⟩
  have t3_0 : decide (1099511627776 < b) = false := by simpa using t3
  have HE := Lib.hid ((spanOk_iff a b).2 (by omega))
  go_enter Try.func75, Try.ntmps75
  go_wp2_with fail
  go_ret
  exact ⟨ret_int (by rw [HE.out]; rfl), (Keeps.refl _).alloc _⟩
set_option maxRecDepth 100000 in
theorem rscheck_any (a b : Int) (w : World) : Calls Try.prog 80 #[.agg #[.int .i64 a, .int .i64 b]] w fun e w' => e = .returned (.int .i64 (cond (spanOk a b) 0 60)) ∧ Keeps w w' := by
  by_cases t1 : a < 0
  · have d1 : decide (a < 0) = true := by simpa using t1
    have HE := Lib.hid (spanOk_no (a := a) (b := b) (by omega))
    go_enter Try.func80, Try.ntmps80
    go_wp2_with fail
    go_ret
    exact ⟨ret_int (by rw [HE.out]; rfl), (Keeps.refl _).alloc _⟩
  have t1_0 : decide (a < 0) = false := by simpa using t1
  by_cases t2 : b < a
  · have d1 : decide (b < a) = true := by simpa using t2
    have HE := Lib.hid (spanOk_no (a := a) (b := b) (by omega))
    go_enter Try.func80, Try.ntmps80
    go_wp2_with fail
    go_ret
    exact ⟨ret_int (by rw [HE.out]; rfl), (Keeps.refl _).alloc _⟩
  have t2_0 : decide (b < a) = false := by simpa using t2
  by_cases t3 : 1099511627776 < b
  · have d1 : decide (1099511627776 < b) = true := by simpa using t3
    have HE := Lib.hid (spanOk_no (a := a) (b := b) (by omega))
    go_enter Try.func80, Try.ntmps80
    go_wp2_with fail
    go_ret
    exact ⟨ret_int (by rw [HE.out]; rfl), (Keeps.refl _).alloc _⟩
  have t3_0 : decide (1099511627776 < b) = false := by simpa using t3
  have HE := Lib.hid ((spanOk_iff a b).2 (by omega))
  go_enter Try.func80, Try.ntmps80
  go_wp2_with fail
  go_ret
  exact ⟨ret_int (by rw [HE.out]; rfl), (Keeps.refl _).alloc _⟩
set_option maxRecDepth 100000 in
set_option maxHeartbeats 1000000 in
theorem both_any (a b c d : Int) (w : World) : Calls Try.prog 91 #[.agg #[.int .i64 a, .int .i64 b], .agg #[.int .i64 c, .int .i64 d]] w fun e w' => e = .returned (.bool (spanBoth a b c d)) ∧ Keeps w w' := by
  have HK := Lib.hid (((Keeps.refl w).alloc (.cells #[.int .i64 a, .int .i64 b] 30)).alloc (.cells #[.int .i64 c, .int .i64 d] 30))
  have HA := Lib.hid ((Box.new w 30 #[.int .i64 a, .int .i64 b]).next (.cells #[.int .i64 c, .int .i64 d] 30))
  have hb := Box.new (w.alloc (.cells #[.int .i64 a, .int .i64 b] 30)) 30 #[.int .i64 c, .int .i64 d]
  rw [World.size_alloc] at hb
  have HC := Lib.hid hb
  clear hb
  obtain ⟨R, hR⟩ : ∃ R, R = spanBoth a b c d := ⟨_, rfl⟩
  rw [← hR]
  have HRd := Lib.hid hR
  clear hR
  go_enter Try.func91, Try.ntmps91
  go_wp2_with fail
  with_reducible refine (scheck_any a b _).mono ?_
  rintro e w1 ⟨rfl, hk1⟩
  replace HA := Lib.hid (HA.out.keeps hk1)
  replace HC := Lib.hid (HC.out.keeps hk1)
  replace HK := Lib.hid (HK.out.trans hk1)
  clear hk1
  have a0 := HA.out.cell 0 _ rfl
  have a1 := HA.out.cell 1 _ rfl
  have al := HA.out.lt
  have c0 := HC.out.cell 0 _ rfl
  have c1 := HC.out.cell 1 _ rfl
  have cl := HC.out.lt
  cases hA : spanOk a b
  · simp only [cond_false]
    have HE : Hid (R = false) := Lib.hid (by rw [HRd.out]; unfold spanBoth; rw [hA]; rfl)
    go_wp2_with fail
    go_ret
    exact ⟨ret_bool (by rw [HE.out]), HK.out⟩
  simp only [cond_true]
  go_wp2_with fail
  with_reducible refine (scheck_any c d _).mono ?_
  rintro e w2 ⟨rfl, hk1⟩
  replace HA := Lib.hid (HA.out.keeps hk1)
  replace HC := Lib.hid (HC.out.keeps hk1)
  replace HK := Lib.hid (HK.out.trans hk1)
  clear hk1 a0 a1 al c0 c1 cl
  have a0 := HA.out.cell 0 _ rfl
  have a1 := HA.out.cell 1 _ rfl
  have al := HA.out.lt
  have c0 := HC.out.cell 0 _ rfl
  have c1 := HC.out.cell 1 _ rfl
  have cl := HC.out.lt
  cases hC : spanOk c d
  · simp only [cond_false]
    have HE : Hid (R = false) := Lib.hid (by rw [HRd.out]; unfold spanBoth; rw [hA, hC]; rfl)
    go_wp2_with fail
    go_ret
    exact ⟨ret_bool (by rw [HE.out]), HK.out⟩
  simp only [cond_true]
  have HE : Hid (R = true) := Lib.hid (by rw [HRd.out]; unfold spanBoth; rw [hA, hC]; rfl)
  go_wp2_with fail
  go_ret
  exact ⟨ret_bool (by rw [HE.out]), HK.out⟩
set_option maxRecDepth 100000 in
set_option maxHeartbeats 1000000 in
theorem meets_any (a b c d : Int) (w : World) : Calls Try.prog 76 #[.agg #[.int .i64 a, .int .i64 b], .agg #[.int .i64 c, .int .i64 d]] w fun e w' => e = .returned (.bool (spanMeets a b c d)) ∧ Keeps w w' := by
  have HK := Lib.hid (((Keeps.refl w).alloc (.cells #[.int .i64 a, .int .i64 b] 30)).alloc (.cells #[.int .i64 c, .int .i64 d] 30))
  have HA := Lib.hid ((Box.new w 30 #[.int .i64 a, .int .i64 b]).next (.cells #[.int .i64 c, .int .i64 d] 30))
  have hb := Box.new (w.alloc (.cells #[.int .i64 a, .int .i64 b] 30)) 30 #[.int .i64 c, .int .i64 d]
  rw [World.size_alloc] at hb
  have HC := Lib.hid hb
  clear hb
  obtain ⟨R, hR⟩ : ∃ R, R = spanMeets a b c d := ⟨_, rfl⟩
  rw [← hR]
  have HRd := Lib.hid hR
  clear hR
  go_enter Try.func76, Try.ntmps76
  go_wp2_with fail
  with_reducible refine (both_any a b c d _).mono ?_
  rintro e w1 ⟨rfl, hk1⟩
  replace HA := Lib.hid (HA.out.keeps hk1)
  replace HC := Lib.hid (HC.out.keeps hk1)
  replace HK := Lib.hid (HK.out.trans hk1)
  clear hk1
  have a0 := HA.out.cell 0 _ rfl
  have a1 := HA.out.cell 1 _ rfl
  have al := HA.out.lt
  have c0 := HC.out.cell 0 _ rfl
  have c1 := HC.out.cell 1 _ rfl
  have cl := HC.out.lt
  have HR : Hid (R = (spanBoth a b c d && (decide (a < d) && (decide (c < b) && (decide (a < b) && decide (c < d)))))) := Lib.hid HRd.out
  obtain ⟨B, hB⟩ : ∃ B, B = spanBoth a b c d := ⟨_, rfl⟩
  rw [← hB] at HR
  rw [← hB]
  clear hB
  cases B
  · go_wp2_with fail
    go_ret
    exact ⟨ret_bool (by rw [HR.out]; rfl), HK.out⟩
  by_cases t1 : a < d
  case neg =>
    have e1 : decide (a < d) = false := by simpa using t1
    have HE : Hid (R = false) := Lib.hid (by rw [HR.out, e1]; simp)
    clear HR
    go_wp2_with fail
    go_ret
    exact ⟨ret_bool (HE.out.symm), HK.out⟩
  have t1_0 : decide (a < d) = true := by simpa using t1
  by_cases t2 : c < b
  case neg =>
    have e1 : decide (c < b) = false := by simpa using t2
    have HE : Hid (R = false) := Lib.hid (by rw [HR.out, e1]; simp)
    clear HR
    go_wp2_with fail
    go_ret
    exact ⟨ret_bool (HE.out.symm), HK.out⟩
  have t2_0 : decide (c < b) = true := by simpa using t2
  by_cases t3 : a < b
  case neg =>
    have e1 : decide (a < b) = false := by simpa using t3
    have HE : Hid (R = false) := Lib.hid (by rw [HR.out, e1]; simp)
    clear HR
    go_wp2_with fail
    go_ret
    exact ⟨ret_bool (HE.out.symm), HK.out⟩
  have t3_0 : decide (a < b) = true := by simpa using t3
  by_cases t4 : c < d
  case neg =>
    have e1 : decide (c < d) = false := by simpa using t4
    have HE : Hid (R = false) := Lib.hid (by rw [HR.out, e1]; simp)
    clear HR
    go_wp2_with fail
    go_ret
    exact ⟨ret_bool (HE.out.symm), HK.out⟩
  have t4_0 : decide (c < d) = true := by simpa using t4
  have HE : Hid (R = true) := Lib.hid (by rw [HR.out, t1_0, t2_0, t3_0, t4_0]; rfl)
  clear HR
  go_wp2_with fail
  go_ret
  exact ⟨ret_bool (HE.out.symm), HK.out⟩
set_option maxRecDepth 100000 in
set_option maxHeartbeats 1000000 in
theorem rmeets_any (a b c d : Int) (w : World) : Calls Try.prog 81 #[.agg #[.int .i64 a, .int .i64 b], .agg #[.int .i64 c, .int .i64 d]] w fun e w' => e = .returned (.bool (spanMeets a b c d)) ∧ Keeps w w' := by
  have HK := Lib.hid (((Keeps.refl w).alloc (.cells #[.int .i64 a, .int .i64 b] 30)).alloc (.cells #[.int .i64 c, .int .i64 d] 30))
  have HA := Lib.hid ((Box.new w 30 #[.int .i64 a, .int .i64 b]).next (.cells #[.int .i64 c, .int .i64 d] 30))
  have hb := Box.new (w.alloc (.cells #[.int .i64 a, .int .i64 b] 30)) 30 #[.int .i64 c, .int .i64 d]
  rw [World.size_alloc] at hb
  have HC := Lib.hid hb
  clear hb
  obtain ⟨R, hR⟩ : ∃ R, R = spanMeets a b c d := ⟨_, rfl⟩
  rw [← hR]
  have HRd := Lib.hid hR
  clear hR
  go_enter Try.func81, Try.ntmps81
  go_wp2_with fail
  with_reducible refine (rscheck_any a b _).mono ?_
  rintro e w1 ⟨rfl, hk1⟩
  replace HA := Lib.hid (HA.out.keeps hk1)
  replace HC := Lib.hid (HC.out.keeps hk1)
  replace HK := Lib.hid (HK.out.trans hk1)
  clear hk1
  have a0 := HA.out.cell 0 _ rfl
  have a1 := HA.out.cell 1 _ rfl
  have al := HA.out.lt
  have c0 := HC.out.cell 0 _ rfl
  have c1 := HC.out.cell 1 _ rfl
  have cl := HC.out.lt
  cases hA : spanOk a b
  · simp only [cond_false]
    have HE : Hid (R = false) := Lib.hid (by rw [HRd.out]; unfold spanMeets; rw [hA]; rfl)
    go_wp2_with fail
    go_ret
    exact ⟨ret_bool (by rw [HE.out]), HK.out⟩
  simp only [cond_true]
  go_wp2_with fail
  with_reducible refine (rscheck_any c d _).mono ?_
  rintro e w2 ⟨rfl, hk1⟩
  replace HA := Lib.hid (HA.out.keeps hk1)
  replace HC := Lib.hid (HC.out.keeps hk1)
  replace HK := Lib.hid (HK.out.trans hk1)
  clear hk1 a0 a1 al c0 c1 cl
  have a0 := HA.out.cell 0 _ rfl
  have a1 := HA.out.cell 1 _ rfl
  have al := HA.out.lt
  have c0 := HC.out.cell 0 _ rfl
  have c1 := HC.out.cell 1 _ rfl
  have cl := HC.out.lt
  cases hC : spanOk c d
  · simp only [cond_false]
    have HE : Hid (R = false) := Lib.hid (by rw [HRd.out]; unfold spanMeets; rw [hA, hC]; rfl)
    go_wp2_with fail
    go_ret
    exact ⟨ret_bool (by rw [HE.out]), HK.out⟩
  simp only [cond_true]
  have HR : Hid (R = (decide (a < d) && (decide (c < b) && (decide (a < b) && decide (c < d))))) := Lib.hid (by rw [HRd.out]; unfold spanMeets; rw [hA, hC]; rfl)
  have hAi := (spanOk_iff a b).1 hA
  have hCi := (spanOk_iff c d).1 hC
  go_wp2_with fail
  all_goals
    go_ret
    exact ⟨ret_bool (by rw [HR.out, Bool.eq_iff_iff]; simp only [Bool.and_eq_true, decide_eq_true_eq]; omega), HK.out⟩
set_option maxRecDepth 100000 in
set_option maxHeartbeats 1000000 in
theorem rwithin6_any (a b c d : Int) (w : World) : Calls Try.prog 54 #[.agg #[.int .i64 a, .int .i64 b], .agg #[.int .i64 c, .int .i64 d]] w fun e w' => e = .returned (.bool (spanIn a b c d)) ∧ Keeps w w' := by
  have HK := Lib.hid (((Keeps.refl w).alloc (.cells #[.int .i64 a, .int .i64 b] 30)).alloc (.cells #[.int .i64 c, .int .i64 d] 30))
  have HA := Lib.hid ((Box.new w 30 #[.int .i64 a, .int .i64 b]).next (.cells #[.int .i64 c, .int .i64 d] 30))
  have hb := Box.new (w.alloc (.cells #[.int .i64 a, .int .i64 b] 30)) 30 #[.int .i64 c, .int .i64 d]
  rw [World.size_alloc] at hb
  have HC := Lib.hid hb
  clear hb
  obtain ⟨R, hR⟩ : ∃ R, R = spanIn a b c d := ⟨_, rfl⟩
  rw [← hR]
  have HRd := Lib.hid hR
  clear hR
  go_enter Try.func54, Try.ntmps54
  go_wp2_with fail
  with_reducible refine (rscheck_any a b _).mono ?_
  rintro e w1 ⟨rfl, hk1⟩
  replace HA := Lib.hid (HA.out.keeps hk1)
  replace HC := Lib.hid (HC.out.keeps hk1)
  replace HK := Lib.hid (HK.out.trans hk1)
  clear hk1
  have a0 := HA.out.cell 0 _ rfl
  have a1 := HA.out.cell 1 _ rfl
  have al := HA.out.lt
  have c0 := HC.out.cell 0 _ rfl
  have c1 := HC.out.cell 1 _ rfl
  have cl := HC.out.lt
  cases hA : spanOk a b
  · simp only [cond_false]
    have HE : Hid (R = false) := Lib.hid (by rw [HRd.out]; unfold spanIn; rw [hA]; rfl)
    go_wp2_with fail
    go_ret
    exact ⟨ret_bool (by rw [HE.out]), HK.out⟩
  simp only [cond_true]
  go_wp2_with fail
  with_reducible refine (rscheck_any c d _).mono ?_
  rintro e w2 ⟨rfl, hk1⟩
  replace HA := Lib.hid (HA.out.keeps hk1)
  replace HC := Lib.hid (HC.out.keeps hk1)
  replace HK := Lib.hid (HK.out.trans hk1)
  clear hk1 a0 a1 al c0 c1 cl
  have a0 := HA.out.cell 0 _ rfl
  have a1 := HA.out.cell 1 _ rfl
  have al := HA.out.lt
  have c0 := HC.out.cell 0 _ rfl
  have c1 := HC.out.cell 1 _ rfl
  have cl := HC.out.lt
  cases hC : spanOk c d
  · simp only [cond_false]
    have HE : Hid (R = false) := Lib.hid (by rw [HRd.out]; unfold spanIn; rw [hA, hC]; rfl)
    go_wp2_with fail
    go_ret
    exact ⟨ret_bool (by rw [HE.out]), HK.out⟩
  simp only [cond_true]
  have HR : Hid (R = (decide (c ≤ a) && decide (b ≤ d))) := Lib.hid (by rw [HRd.out]; unfold spanIn; rw [hA, hC]; rfl)
  by_cases t1 : c ≤ a
  case neg =>
    have e1 : decide (c ≤ a) = false := by simpa using t1
    have HE : Hid (R = false) := Lib.hid (by rw [HR.out, e1]; rfl)
    clear HR
    go_wp2_with fail
    go_ret
    exact ⟨ret_bool (HE.out.symm), HK.out⟩
  have e1 : decide (c ≤ a) = true := by simpa using t1
  by_cases t2 : b ≤ d
  case neg =>
    have e2 : decide (b ≤ d) = false := by simpa using t2
    have HE : Hid (R = false) := Lib.hid (by rw [HR.out, e1, e2]; rfl)
    clear HR
    go_wp2_with fail
    go_ret
    exact ⟨ret_bool (HE.out.symm), HK.out⟩
  have e2 : decide (b ≤ d) = true := by simpa using t2
  have HE : Hid (R = true) := Lib.hid (by rw [HR.out, e1, e2]; rfl)
  clear HR
  go_wp2_with fail
  go_ret
  exact ⟨ret_bool (HE.out.symm), HK.out⟩
end Go.Proofs.Ytcophhdlcjemeaa
