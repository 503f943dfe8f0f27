/- The walks of layer 6, 2: Within. -/
import Derived.Test.YtcophhdlcjemeaaS1
import Derived.Test.YtcophhdlcjemeaaM15
namespace Go.Proofs.Ytcophhdlcjemeaa
open Go.RowKit
set_option linter.unusedVariables false
set_option linter.unusedSimpArgs false
attribute [local go_sem ↓ high] eqSpan
set_option maxRecDepth 100000 in
set_option maxHeartbeats 1000000 in
theorem within6_any (a b c d : Int) (w : World) : Calls Try.prog 77 #[.agg #[.int .i64 a, .int .i64 b], .agg #[.int .i64 c, .int .i64 d]] w fun e w' => e = .returned (.bool (spanIn a b c d)) ∧ Keeps w w' := by
  have HK := Lib.hid (((Keeps.refl w).alloc (.cells #[.int .i64 a, .int .i64 b] 30)).alloc (.cells #[.int .i64 c, .int .i64 d] 30))
  have HA := Lib.hid ((Box.new w 30 #[.int .i64 a, .int .i64 b]).next (.cells #[.int .i64 c, .int .i64 d] 30))
  have hb := Box.new (w.alloc (.cells #[.int .i64 a, .int .i64 b] 30)) 30 #[.int .i64 c, .int .i64 d]
  rw [World.size_alloc] at hb
  have HC := Lib.hid hb
  clear hb
  obtain ⟨R, hR⟩ : ∃ R, R = spanIn a b c d := ⟨_, rfl⟩
  rw [← hR]
  have HRd := Lib.hid hR
  clear hR
  have HS0 : Hid (spanSame a b c d = true ↔ a = c ∧ b = d) := Lib.hid (by unfold spanSame; rw [decide_eq_true_eq])
  have HR : Hid (R = ((spanOk a b && spanOk c d) && (decide (c ≤ a) && decide (b ≤ d)))) := Lib.hid HRd.out
  have HB : Hid (spanBoth a b c d = (spanOk a b && spanOk c d)) := Lib.hid rfl
  have H1 := Lib.hid (scheck_any a b)
  have H2 := Lib.hid (both_any a b c d)
  rw [HB.out] at H2
  clear HB HRd
  obtain ⟨P, hP⟩ : ∃ P, P = spanOk a b := ⟨_, rfl⟩
  have HP := Lib.hid hP
  rw [← hP] at HR H1 H2
  clear hP
  obtain ⟨Q, hQ⟩ : ∃ Q, Q = spanOk c d := ⟨_, rfl⟩
  have HQ := Lib.hid hQ
  rw [← hQ] at HR H2
  clear hQ
  obtain ⟨S, hS⟩ : ∃ S, S = spanSame a b c d := ⟨_, rfl⟩
  rw [← hS] at HS0
  have HS := Lib.hid hS
  have HE0 : ∀ w : World, (Op.equalIn 10000 30 (.agg #[.int .i64 a, .int .i64 b]) (.agg #[.int .i64 c, .int .i64 d])).run Try.prog w = .ok S w := fun w => by rw [hS]; exact eqSpan a b c d w
  clear hS
  cases S
  · have hsp : spanSame a b c d = false := HS.out.symm
    clear HS0 HS H1 HE0
    cases P
    · have HE : Hid (R = false) := Lib.hid (by rw [HR.out]; rfl)
      go_enter Try.func77, Try.ntmps77
      go_wp2_with fail
      with_reducible refine (H2.out _).mono ?_
      rintro e w1 ⟨rfl, hk1⟩
      replace HA := Lib.hid (HA.out.keeps hk1)
      replace HC := Lib.hid (HC.out.keeps hk1)
      replace HK := Lib.hid (HK.out.trans hk1)
      clear hk1
      have a0 := HA.out.cell 0 _ rfl
      have a1 := HA.out.cell 1 _ rfl
      have al := HA.out.lt
      have c0 := HC.out.cell 0 _ rfl
      have c1 := HC.out.cell 1 _ rfl
      have cl := HC.out.lt
      go_wp2_with fail
      go_ret
      exact ⟨ret_bool (HE.out.symm), HK.out⟩
    cases Q
    · have HE : Hid (R = false) := Lib.hid (by rw [HR.out]; rfl)
      go_enter Try.func77, Try.ntmps77
      go_wp2_with fail
      with_reducible refine (H2.out _).mono ?_
      rintro e w1 ⟨rfl, hk1⟩
      replace HA := Lib.hid (HA.out.keeps hk1)
      replace HC := Lib.hid (HC.out.keeps hk1)
      replace HK := Lib.hid (HK.out.trans hk1)
      clear hk1
      have a0 := HA.out.cell 0 _ rfl
      have a1 := HA.out.cell 1 _ rfl
      have al := HA.out.lt
      have c0 := HC.out.cell 0 _ rfl
      have c1 := HC.out.cell 1 _ rfl
      have cl := HC.out.lt
      go_wp2_with fail
      go_ret
      exact ⟨ret_bool (HE.out.symm), HK.out⟩
    go_enter Try.func77, Try.ntmps77
    go_wp2_with fail
    with_reducible refine (H2.out _).mono ?_
    rintro e w1 ⟨rfl, hk1⟩
    replace HA := Lib.hid (HA.out.keeps hk1)
    replace HC := Lib.hid (HC.out.keeps hk1)
    replace HK := Lib.hid (HK.out.trans hk1)
    clear hk1
    have a0 := HA.out.cell 0 _ rfl
    have a1 := HA.out.cell 1 _ rfl
    have al := HA.out.lt
    have c0 := HC.out.cell 0 _ rfl
    have c1 := HC.out.cell 1 _ rfl
    have cl := HC.out.lt
    by_cases t1 : c ≤ a
    case neg =>
      have e1 : decide (c ≤ a) = false := by simpa using t1
      have HE : Hid (R = false) := Lib.hid (by rw [HR.out, e1]; simp)
      clear HR
      go_wp2_with fail
      go_ret
      exact ⟨ret_bool (HE.out.symm), HK.out⟩
    have t1_0 : decide (c ≤ a) = true := by simpa using t1
    by_cases t2 : b ≤ d
    case neg =>
      have e1 : decide (b ≤ d) = false := by simpa using t2
      have HE : Hid (R = false) := Lib.hid (by rw [HR.out, e1]; simp)
      clear HR
      go_wp2_with fail
      go_ret
      exact ⟨ret_bool (HE.out.symm), HK.out⟩
    have t2_0 : decide (b ≤ d) = true := by simpa using t2
    have HE : Hid (R = true) := Lib.hid (by rw [HR.out, t1_0, t2_0]; rfl)
    clear HR
    go_wp2_with fail
    go_ret
    exact ⟨ret_bool (HE.out.symm), HK.out⟩
  obtain ⟨rfl, rfl⟩ := HS0.out.1 rfl
  have hPQ : P = Q := by rw [HP.out, HQ.out]
  subst hPQ
  clear HS0 HS HP HQ HE0
  cases P
  · have HE : Hid (R = false) := Lib.hid (by rw [HR.out]; rfl)
    go_enter Try.func77, Try.ntmps77
    go_wp2_with fail
    with_reducible refine (H1.out _).mono ?_
    rintro e w1 ⟨rfl, hk1⟩
    replace HA := Lib.hid (HA.out.keeps hk1)
    replace HC := Lib.hid (HC.out.keeps hk1)
    replace HK := Lib.hid (HK.out.trans hk1)
    clear hk1
    have a0 := HA.out.cell 0 _ rfl
    have a1 := HA.out.cell 1 _ rfl
    have al := HA.out.lt
    have c0 := HC.out.cell 0 _ rfl
    have c1 := HC.out.cell 1 _ rfl
    have cl := HC.out.lt
    simp only [cond_false]
    go_wp2_with fail
    with_reducible refine (H2.out _).mono ?_
    rintro e w2 ⟨rfl, hk1⟩
    replace HA := Lib.hid (HA.out.keeps hk1)
    replace HC := Lib.hid (HC.out.keeps hk1)
    replace HK := Lib.hid (HK.out.trans hk1)
    clear hk1 a0 a1 al c0 c1 cl
    have a0 := HA.out.cell 0 _ rfl
    have a1 := HA.out.cell 1 _ rfl
    have al := HA.out.lt
    have c0 := HC.out.cell 0 _ rfl
    have c1 := HC.out.cell 1 _ rfl
    have cl := HC.out.lt
    go_wp2_with fail
    go_ret
    exact ⟨ret_bool (HE.out.symm), HK.out⟩
  have HE : Hid (R = true) := Lib.hid (by rw [HR.out, Bool.eq_iff_iff]; simp)
  go_enter Try.func77, Try.ntmps77
  go_wp2_with fail
  with_reducible refine (H1.out _).mono ?_
  rintro e w1 ⟨rfl, hk1⟩
  replace HA := Lib.hid (HA.out.keeps hk1)
  replace HC := Lib.hid (HC.out.keeps hk1)
  replace HK := Lib.hid (HK.out.trans hk1)
  clear hk1
  have a0 := HA.out.cell 0 _ rfl
  have a1 := HA.out.cell 1 _ rfl
  have al := HA.out.lt
  have c0 := HC.out.cell 0 _ rfl
  have c1 := HC.out.cell 1 _ rfl
  have cl := HC.out.lt
  simp only [cond_true]
  go_wp2_with fail
  go_ret
  exact ⟨ret_bool (HE.out.symm), HK.out⟩
end Go.Proofs.Ytcophhdlcjemeaa
