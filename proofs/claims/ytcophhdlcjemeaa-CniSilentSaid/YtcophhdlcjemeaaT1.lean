/- The walks of layer 11, 1: Check, on both sides. -/
import Derived.Test.YtcophhdlcjemeaaS2
import Derived.Test.YtcophhdlcjemeaaW4
namespace Go.Proofs.Ytcophhdlcjemeaa
open Go.RowKit
set_option linter.unusedVariables false
set_option linter.unusedSimpArgs false
/-- a signal -/
structure RSig where
  fr : Int
  f : Int
  t : Int
  lv : Int
  b : RB
abbrev RSig.val (s : RSig) : Value := .agg #[.int .i64 s.fr, .int .i64 s.f, .int .i64 s.t, .int .i64 s.lv, .int .i64 s.b.n, .slice s.b.a s.b.len s.b.cap]
def sigOk (s : RSig) : Bool := decide (-1 ≤ s.fr ∧ s.fr < 8 ∧ 0 ≤ s.lv ∧ s.lv ≤ 200) && (spanOk s.f s.t && chk s.b.n s.b.l)
set_option maxRecDepth 100000 in
set_option maxHeartbeats 1000000 in
theorem sigcheck_any (s : RSig) (w : World) (hs : s.b.In w) : Calls Try.prog 74 #[s.val] w fun e w' => e = .returned (.int .i64 (cond (sigOk s) 0 110)) ∧ Keeps w w' := by
  have HI := Lib.hid hs
  clear hs
  obtain ⟨fr, f, t, lv, n, a, len, cap, l⟩ := s
  have HR : Hid (sigOk ⟨fr, f, t, lv, n, a, len, cap, l⟩ = (decide (-1 ≤ fr ∧ fr < 8 ∧ 0 ≤ lv ∧ lv ≤ 200) && (spanOk f t && chk n l))) := Lib.hid rfl
  obtain ⟨R, hR⟩ : ∃ R, R = sigOk ⟨fr, f, t, lv, n, a, len, cap, l⟩ := ⟨_, rfl⟩
  rw [← hR] at HR ⊢
  clear hR
  simp only at HI
  have HNO : Hid (¬ (-1 ≤ fr ∧ fr < 8 ∧ 0 ≤ lv ∧ lv ≤ 200) → R = false) := Lib.hid (fun h => by rw [HR.out, decide_eq_false h]; rfl)
  have HK := Lib.hid ((Keeps.refl w).alloc (.cells #[.int .i64 fr, .int .i64 f, .int .i64 t, .int .i64 lv, .int .i64 n, .slice a len cap] 73))
  have HB := Lib.hid (Box.new w 73 #[.int .i64 fr, .int .i64 f, .int .i64 t, .int .i64 lv, .int .i64 n, .slice a len cap])
  show Calls Try.prog 74 #[.agg #[.int .i64 fr, .int .i64 f, .int .i64 t, .int .i64 lv, .int .i64 n, .slice a len cap]] w _
  by_cases t1 : fr < -1
  · have d1 : decide (fr < -1) = true := by simpa using t1
    have HE := Lib.hid (HNO.out (by omega))
    go_enter Try.func74, Try.ntmps74
    go_wp2_with fail
    go_ret
    exact ⟨ret_int (by rw [HE.out]; rfl), HK.out⟩
  have t1_0 : decide (fr < -1) = false := by simpa using t1
  by_cases t2 : 8 ≤ fr
  · have d1 : decide (8 ≤ fr) = true := by simpa using t2
    have HE := Lib.hid (HNO.out (by omega))
    go_enter Try.func74, Try.ntmps74
    go_wp2_with fail
    go_ret
    exact ⟨ret_int (by rw [HE.out]; rfl), HK.out⟩
  have t2_0 : decide (8 ≤ fr) = false := by simpa using t2
  by_cases t3 : lv < 0
  · have d1 : decide (lv < 0) = true := by simpa using t3
    have HE := Lib.hid (HNO.out (by omega))
    go_enter Try.func74, Try.ntmps74
    go_wp2_with fail
    go_ret
    exact ⟨ret_int (by rw [HE.out]; rfl), HK.out⟩
  have t3_0 : decide (lv < 0) = false := by simpa using t3
  by_cases t4 : 200 < lv
  · have d1 : decide (200 < lv) = true := by simpa using t4
    have HE := Lib.hid (HNO.out (by omega))
    go_enter Try.func74, Try.ntmps74
    go_wp2_with fail
    go_ret
    exact ⟨ret_int (by rw [HE.out]; rfl), HK.out⟩
  have t4_0 : decide (200 < lv) = false := by simpa using t4
  cases hsp : spanOk f t
  · have HE : Hid (R = false) := Lib.hid (by rw [HR.out, hsp]; simp)
    go_enter Try.func74, Try.ntmps74
    go_wp2_with fail
    with_reducible refine (scheck_any f t _).mono ?_
    rintro e w1 ⟨rfl, hk1⟩
    replace HK := Lib.hid (HK.out.trans hk1)
    clear hk1
    rw [hsp]
    simp only [cond_false]
    go_wp2_with fail
    go_ret
    exact ⟨ret_int (by rw [HE.out]; rfl), HK.out⟩
  go_enter Try.func74, Try.ntmps74
  go_wp2_with fail
  with_reducible refine (scheck_any f t _).mono ?_
  rintro e w1 ⟨rfl, hk1⟩
  replace HB := Lib.hid (HB.out.keeps hk1)
  replace HK := Lib.hid (HK.out.trans hk1)
  clear hk1
  rw [hsp]
  simp only [cond_true]
  have b0 := HB.out.cell 0 _ rfl
  have b1 := HB.out.cell 1 _ rfl
  have b2 := HB.out.cell 2 _ rfl
  have b3 := HB.out.cell 3 _ rfl
  have b4 := HB.out.cell 4 _ rfl
  have b5 := HB.out.cell 5 _ rfl
  have bl := HB.out.lt
  cases hch : chk n l
  · have HE : Hid (R = false) := Lib.hid (by rw [HR.out, hch]; simp)
    go_wp2_with fail
    with_reducible refine (check_no ⟨n, a, len, cap, l⟩ _ (by exact HI.out.keeps HK.out) hch).mono ?_
    rintro e w2 ⟨rfl, hk1⟩
    replace HK := Lib.hid (HK.out.trans hk1)
    clear hk1
    go_wp2_with fail
    go_ret
    exact ⟨ret_int (by rw [HE.out]; rfl), HK.out⟩
  go_wp2_with fail
  with_reducible refine (check_yes ⟨n, a, len, cap, l⟩ _ (by exact HI.out.keeps HK.out) hch).mono ?_
  rintro e w2 ⟨rfl, hk1⟩
  replace HK := Lib.hid (HK.out.trans hk1)
  clear hk1 b0 b1 b2 b3 b4 b5 bl
  have HE : Hid (R = true) := Lib.hid (by rw [HR.out, hsp, hch, decide_eq_true (by omega)]; rfl)
  go_wp2_with fail
  go_ret
  exact ⟨ret_int (by rw [HE.out]; rfl), HK.out⟩
set_option maxRecDepth 100000 in
set_option maxHeartbeats 1000000 in
theorem rsigcheck_any (s : RSig) (w : World) (hs : s.b.In w) : Calls Try.prog 79 #[s.val] w fun e w' => e = .returned (.int .i64 (cond (sigOk s) 0 110)) ∧ Keeps w w' := by
  have HI := Lib.hid hs
  clear hs
  obtain ⟨fr, f, t, lv, n, a, len, cap, l⟩ := s
  have HR : Hid (sigOk ⟨fr, f, t, lv, n, a, len, cap, l⟩ = (decide (-1 ≤ fr ∧ fr < 8 ∧ 0 ≤ lv ∧ lv ≤ 200) && (spanOk f t && chk n l))) := Lib.hid rfl
  obtain ⟨R, hR⟩ : ∃ R, R = sigOk ⟨fr, f, t, lv, n, a, len, cap, l⟩ := ⟨_, rfl⟩
  rw [← hR] at HR ⊢
  clear hR
  simp only at HI
  have HNO : Hid (¬ (-1 ≤ fr ∧ fr < 8 ∧ 0 ≤ lv ∧ lv ≤ 200) → R = false) := Lib.hid (fun h => by rw [HR.out, decide_eq_false h]; rfl)
  have HK := Lib.hid ((Keeps.refl w).alloc (.cells #[.int .i64 fr, .int .i64 f, .int .i64 t, .int .i64 lv, .int .i64 n, .slice a len cap] 73))
  have HB := Lib.hid (Box.new w 73 #[.int .i64 fr, .int .i64 f, .int .i64 t, .int .i64 lv, .int .i64 n, .slice a len cap])
  show Calls Try.prog 79 #[.agg #[.int .i64 fr, .int .i64 f, .int .i64 t, .int .i64 lv, .int .i64 n, .slice a len cap]] w _
  by_cases t1 : fr < -1
  · have d1 : decide (fr < -1) = true := by simpa using t1
    have HE := Lib.hid (HNO.out (by omega))
    go_enter Try.func79, Try.ntmps79
    go_wp2_with fail
    go_ret
    exact ⟨ret_int (by rw [HE.out]; rfl), HK.out⟩
  have t1_0 : decide (fr < -1) = false := by simpa using t1
  by_cases t2 : 8 ≤ fr
  · have d1 : decide (8 ≤ fr) = true := by simpa using t2
    have HE := Lib.hid (HNO.out (by omega))
    go_enter Try.func79, Try.ntmps79
    go_wp2_with fail
    go_ret
    exact ⟨ret_int (by rw [HE.out]; rfl), HK.out⟩
  have t2_0 : decide (8 ≤ fr) = false := by simpa using t2
  cases hsp : spanOk f t
  · have HE : Hid (R = false) := Lib.hid (by rw [HR.out, hsp]; simp)
    go_enter Try.func79, Try.ntmps79
    go_wp2_with fail
    with_reducible refine (rscheck_any f t _).mono ?_
    rintro e w1 ⟨rfl, hk1⟩
    replace HK := Lib.hid (HK.out.trans hk1)
    clear hk1
    rw [hsp]
    simp only [cond_false]
    go_wp2_with fail
    go_ret
    exact ⟨ret_int (by rw [HE.out]; rfl), HK.out⟩
  go_enter Try.func79, Try.ntmps79
  go_wp2_with fail
  with_reducible refine (rscheck_any f t _).mono ?_
  rintro e w1 ⟨rfl, hk1⟩
  replace HB := Lib.hid (HB.out.keeps hk1)
  replace HK := Lib.hid (HK.out.trans hk1)
  clear hk1
  rw [hsp]
  simp only [cond_true]
  have b0 := HB.out.cell 0 _ rfl
  have b1 := HB.out.cell 1 _ rfl
  have b2 := HB.out.cell 2 _ rfl
  have b3 := HB.out.cell 3 _ rfl
  have b4 := HB.out.cell 4 _ rfl
  have b5 := HB.out.cell 5 _ rfl
  have bl := HB.out.lt
  by_cases t3 : lv < 0
  · have d1 : decide (lv < 0) = true := by simpa using t3
    have HE := Lib.hid (HNO.out (by omega))
    go_wp2_with fail
    go_ret
    exact ⟨ret_int (by rw [HE.out]; rfl), HK.out⟩
  have t3_0 : decide (lv < 0) = false := by simpa using t3
  by_cases t4 : 200 < lv
  · have d1 : decide (200 < lv) = true := by simpa using t4
    have HE := Lib.hid (HNO.out (by omega))
    go_wp2_with fail
    go_ret
    exact ⟨ret_int (by rw [HE.out]; rfl), HK.out⟩
  have t4_0 : decide (200 < lv) = false := by simpa using t4
  cases hch : chk n l
  · have HE : Hid (R = false) := Lib.hid (by rw [HR.out, hch]; simp)
    go_wp2_with fail
    with_reducible refine (rcheck_no ⟨n, a, len, cap, l⟩ _ (by exact HI.out.keeps HK.out) hch).mono ?_
    rintro e w2 ⟨rfl, hk1⟩
    replace HK := Lib.hid (HK.out.trans hk1)
    clear hk1
    go_wp2_with fail
    go_ret
    exact ⟨ret_int (by rw [HE.out]; rfl), HK.out⟩
  go_wp2_with fail
  with_reducible refine (rcheck_yes ⟨n, a, len, cap, l⟩ _ (by exact HI.out.keeps HK.out) hch).mono ?_
  rintro e w2 ⟨rfl, hk1⟩
  replace HK := Lib.hid (HK.out.trans hk1)
  clear hk1 b0 b1 b2 b3 b4 b5 bl
  have HE : Hid (R = true) := Lib.hid (by rw [HR.out, hsp, hch, decide_eq_true (by omega)]; rfl)
  go_wp2_with fail
  go_ret
  exact ⟨ret_int (by rw [HE.out]; rfl), HK.out⟩
end Go.Proofs.Ytcophhdlcjemeaa
