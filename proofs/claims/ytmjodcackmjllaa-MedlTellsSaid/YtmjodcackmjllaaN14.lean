/- The walk of MedlTells. -/
import Derived.Test.YtmjodcackmjllaaN7
import Derived.Test.YtmjodcackmjllaaN10
import Derived.Test.YtmjodcackmjllaaN12
namespace Go.Proofs.Ytmjodcackmjllaa
open Go.RowKit Go.Shelf
set_option linter.unusedVariables false
set_option linter.unusedSimpArgs false
set_option maxRecDepth 100000 in
set_option maxHeartbeats 2000000 in
theorem medlTells_any (m : RMedl) (k n : Int) (w : World) (hm : m.In w) :
    Calls Try.prog 11 #[m.val, .int .i64 k, .int .i64 n] w fun e w' => e = .returned (.bool true) ∧ Keeps w w' := by
  have HM := Lib.hid hm
  clear hm
  have H1 := Lib.hid (kindF_any m k n)
  have H2 := Lib.hid (rkindF_any m k n)
  have H3 := Lib.hid (airF_any m k n)
  have H4 := Lib.hid (rairF_any m k n)
  have H5 := Lib.hid (prec_any m)
  have H6 := Lib.hid (rprec_any m)
  have H7 := Lib.hid (listen_any m n)
  have H8 := Lib.hid (rlisten_any m n)
  have H9 := Lib.hid (retry_any m n)
  have H10 := Lib.hid (rretry_any m n)
  have H11 := Lib.hid (bound_any m)
  have H12 := Lib.hid (rbound_any m)
  obtain ⟨⟨a1, a2⟩, hR⟩ : ∃ R, R = kindRes m k n := ⟨_, rfl⟩
  rw [← hR] at H1 H2
  clear hR
  obtain ⟨⟨b1, b2⟩, hR⟩ : ∃ R, R = airRes m k n := ⟨_, rfl⟩
  rw [← hR] at H3 H4
  clear hR
  obtain ⟨⟨c1, c2⟩, hR⟩ : ∃ R, R = precRes m := ⟨_, rfl⟩
  rw [← hR] at H5 H6
  clear hR
  obtain ⟨⟨d1, d2⟩, hR⟩ : ∃ R, R = listenRes m n := ⟨_, rfl⟩
  rw [← hR] at H7 H8
  clear hR
  obtain ⟨⟨e1, e2⟩, hR⟩ : ∃ R, R = retryRes m n := ⟨_, rfl⟩
  rw [← hR] at H9 H10
  clear hR
  obtain ⟨⟨f1, f2⟩, hR⟩ : ∃ R, R = boundRes m := ⟨_, rfl⟩
  rw [← hR] at H11 H12
  clear hR
  obtain ⟨ca, cc, hcv, hc1, hc2, hc3⟩ := HM.out.c.shape
  clear hc3
  obtain ⟨no, sl, ga, wi, dr, de, cv, cs, ma, mn, mc, xs⟩ := m
  simp only at hcv hc1
  subst hcv
  have HK := Lib.hid ((Keeps.refl w).alloc (.cells #[.int .i64 no, .int .i64 sl, .int .i64 ga, .int .i64 wi, .int .i64 dr, .int .i64 de, .slice ca cs.length cc, .slice ma mn mc] 25))
  have HB := Lib.hid (Box.new w 25 #[.int .i64 no, .int .i64 sl, .int .i64 ga, .int .i64 wi, .int .i64 dr, .int .i64 de, .slice ca cs.length cc, .slice ma mn mc])
  show Calls Try.prog 11 #[.agg #[.int .i64 no, .int .i64 sl, .int .i64 ga, .int .i64 wi, .int .i64 dr, .int .i64 de, .slice ca cs.length cc, .slice ma mn mc], .int .i64 k, .int .i64 n] w _
  go_enter Try.func11, Try.ntmps11
  go_wp2_with fail
  with_reducible refine (H1.out _ (by exact HM.out.keeps HK.out)).mono ?_
  rintro ee w1 ⟨rfl, hk1⟩
  replace HB := Lib.hid (HB.out.keeps hk1)
  replace HK := Lib.hid (HK.out.trans hk1)
  clear hk1 H1
  have m0 := HB.out.cell 0 _ rfl
  have m1 := HB.out.cell 1 _ rfl
  have m2 := HB.out.cell 2 _ rfl
  have m3 := HB.out.cell 3 _ rfl
  have m4 := HB.out.cell 4 _ rfl
  have m5 := HB.out.cell 5 _ rfl
  have m6 := HB.out.cell 6 _ rfl
  have m7 := HB.out.cell 7 _ rfl
  have ml := HB.out.lt
  go_wp2_with fail
  with_reducible refine (H2.out _ (by exact HM.out.keeps HK.out)).mono ?_
  rintro ee w2 ⟨rfl, hk1⟩
  replace HB := Lib.hid (HB.out.keeps hk1)
  replace HK := Lib.hid (HK.out.trans hk1)
  clear hk1 H2 m0 m1 m2 m3 m4 m5 m6 m7 ml
  have m0 := HB.out.cell 0 _ rfl
  have m1 := HB.out.cell 1 _ rfl
  have m2 := HB.out.cell 2 _ rfl
  have m3 := HB.out.cell 3 _ rfl
  have m4 := HB.out.cell 4 _ rfl
  have m5 := HB.out.cell 5 _ rfl
  have m6 := HB.out.cell 6 _ rfl
  have m7 := HB.out.cell 7 _ rfl
  have ml := HB.out.lt
  go_wp2_with fail
  with_reducible refine (H3.out _ (by exact HM.out.keeps HK.out)).mono ?_
  rintro ee w3 ⟨rfl, hk1⟩
  replace HB := Lib.hid (HB.out.keeps hk1)
  replace HK := Lib.hid (HK.out.trans hk1)
  clear hk1 H3 m0 m1 m2 m3 m4 m5 m6 m7 ml
  have m0 := HB.out.cell 0 _ rfl
  have m1 := HB.out.cell 1 _ rfl
  have m2 := HB.out.cell 2 _ rfl
  have m3 := HB.out.cell 3 _ rfl
  have m4 := HB.out.cell 4 _ rfl
  have m5 := HB.out.cell 5 _ rfl
  have m6 := HB.out.cell 6 _ rfl
  have m7 := HB.out.cell 7 _ rfl
  have ml := HB.out.lt
  go_wp2_with fail
  with_reducible refine (H4.out _ (by exact HM.out.keeps HK.out)).mono ?_
  rintro ee w4 ⟨rfl, hk1⟩
  replace HB := Lib.hid (HB.out.keeps hk1)
  replace HK := Lib.hid (HK.out.trans hk1)
  clear hk1 H4 m0 m1 m2 m3 m4 m5 m6 m7 ml
  have m0 := HB.out.cell 0 _ rfl
  have m1 := HB.out.cell 1 _ rfl
  have m2 := HB.out.cell 2 _ rfl
  have m3 := HB.out.cell 3 _ rfl
  have m4 := HB.out.cell 4 _ rfl
  have m5 := HB.out.cell 5 _ rfl
  have m6 := HB.out.cell 6 _ rfl
  have m7 := HB.out.cell 7 _ rfl
  have ml := HB.out.lt
  go_wp2_with fail
  with_reducible refine (begun7_any _).mono ?_
  rintro ee w5 ⟨rfl, hk1⟩
  replace HB := Lib.hid (HB.out.keeps hk1)
  replace HK := Lib.hid (HK.out.trans hk1)
  clear hk1
  clear m0 m1 m2 m3 m4 m5 m6 m7 ml
  have m0 := HB.out.cell 0 _ rfl
  have m1 := HB.out.cell 1 _ rfl
  have m2 := HB.out.cell 2 _ rfl
  have m3 := HB.out.cell 3 _ rfl
  have m4 := HB.out.cell 4 _ rfl
  have m5 := HB.out.cell 5 _ rfl
  have m6 := HB.out.cell 6 _ rfl
  have m7 := HB.out.cell 7 _ rfl
  have ml := HB.out.lt
  go_wp2_with fail
  with_reducible refine (H5.out _ (by exact HM.out.keeps HK.out)).mono ?_
  rintro ee w6 ⟨rfl, hk1⟩
  replace HB := Lib.hid (HB.out.keeps hk1)
  replace HK := Lib.hid (HK.out.trans hk1)
  clear hk1 H5 m0 m1 m2 m3 m4 m5 m6 m7 ml
  have m0 := HB.out.cell 0 _ rfl
  have m1 := HB.out.cell 1 _ rfl
  have m2 := HB.out.cell 2 _ rfl
  have m3 := HB.out.cell 3 _ rfl
  have m4 := HB.out.cell 4 _ rfl
  have m5 := HB.out.cell 5 _ rfl
  have m6 := HB.out.cell 6 _ rfl
  have m7 := HB.out.cell 7 _ rfl
  have ml := HB.out.lt
  go_wp2_with fail
  with_reducible refine (H6.out _ (by exact HM.out.keeps HK.out)).mono ?_
  rintro ee w7 ⟨rfl, hk1⟩
  replace HB := Lib.hid (HB.out.keeps hk1)
  replace HK := Lib.hid (HK.out.trans hk1)
  clear hk1 H6 m0 m1 m2 m3 m4 m5 m6 m7 ml
  have m0 := HB.out.cell 0 _ rfl
  have m1 := HB.out.cell 1 _ rfl
  have m2 := HB.out.cell 2 _ rfl
  have m3 := HB.out.cell 3 _ rfl
  have m4 := HB.out.cell 4 _ rfl
  have m5 := HB.out.cell 5 _ rfl
  have m6 := HB.out.cell 6 _ rfl
  have m7 := HB.out.cell 7 _ rfl
  have ml := HB.out.lt
  go_wp2_with fail
  with_reducible refine (H7.out _ (by exact HM.out.keeps HK.out)).mono ?_
  rintro ee w8 ⟨rfl, hk1⟩
  replace HB := Lib.hid (HB.out.keeps hk1)
  replace HK := Lib.hid (HK.out.trans hk1)
  clear hk1 H7 m0 m1 m2 m3 m4 m5 m6 m7 ml
  have m0 := HB.out.cell 0 _ rfl
  have m1 := HB.out.cell 1 _ rfl
  have m2 := HB.out.cell 2 _ rfl
  have m3 := HB.out.cell 3 _ rfl
  have m4 := HB.out.cell 4 _ rfl
  have m5 := HB.out.cell 5 _ rfl
  have m6 := HB.out.cell 6 _ rfl
  have m7 := HB.out.cell 7 _ rfl
  have ml := HB.out.lt
  go_wp2_with fail
  with_reducible refine (H8.out _ (by exact HM.out.keeps HK.out)).mono ?_
  rintro ee w9 ⟨rfl, hk1⟩
  replace HB := Lib.hid (HB.out.keeps hk1)
  replace HK := Lib.hid (HK.out.trans hk1)
  clear hk1 H8 m0 m1 m2 m3 m4 m5 m6 m7 ml
  have m0 := HB.out.cell 0 _ rfl
  have m1 := HB.out.cell 1 _ rfl
  have m2 := HB.out.cell 2 _ rfl
  have m3 := HB.out.cell 3 _ rfl
  have m4 := HB.out.cell 4 _ rfl
  have m5 := HB.out.cell 5 _ rfl
  have m6 := HB.out.cell 6 _ rfl
  have m7 := HB.out.cell 7 _ rfl
  have ml := HB.out.lt
  go_wp2_with fail
  with_reducible refine (H9.out _ (by exact HM.out.keeps HK.out)).mono ?_
  rintro ee w10 ⟨rfl, hk1⟩
  replace HB := Lib.hid (HB.out.keeps hk1)
  replace HK := Lib.hid (HK.out.trans hk1)
  clear hk1 H9 m0 m1 m2 m3 m4 m5 m6 m7 ml
  have m0 := HB.out.cell 0 _ rfl
  have m1 := HB.out.cell 1 _ rfl
  have m2 := HB.out.cell 2 _ rfl
  have m3 := HB.out.cell 3 _ rfl
  have m4 := HB.out.cell 4 _ rfl
  have m5 := HB.out.cell 5 _ rfl
  have m6 := HB.out.cell 6 _ rfl
  have m7 := HB.out.cell 7 _ rfl
  have ml := HB.out.lt
  go_wp2_with fail
  with_reducible refine (H10.out _ (by exact HM.out.keeps HK.out)).mono ?_
  rintro ee w11 ⟨rfl, hk1⟩
  replace HB := Lib.hid (HB.out.keeps hk1)
  replace HK := Lib.hid (HK.out.trans hk1)
  clear hk1 H10 m0 m1 m2 m3 m4 m5 m6 m7 ml
  have m0 := HB.out.cell 0 _ rfl
  have m1 := HB.out.cell 1 _ rfl
  have m2 := HB.out.cell 2 _ rfl
  have m3 := HB.out.cell 3 _ rfl
  have m4 := HB.out.cell 4 _ rfl
  have m5 := HB.out.cell 5 _ rfl
  have m6 := HB.out.cell 6 _ rfl
  have m7 := HB.out.cell 7 _ rfl
  have ml := HB.out.lt
  go_wp2_with fail
  with_reducible refine (H11.out _ (by exact HM.out.keeps HK.out)).mono ?_
  rintro ee w12 ⟨rfl, hk1⟩
  replace HB := Lib.hid (HB.out.keeps hk1)
  replace HK := Lib.hid (HK.out.trans hk1)
  clear hk1 H11 m0 m1 m2 m3 m4 m5 m6 m7 ml
  have m0 := HB.out.cell 0 _ rfl
  have m1 := HB.out.cell 1 _ rfl
  have m2 := HB.out.cell 2 _ rfl
  have m3 := HB.out.cell 3 _ rfl
  have m4 := HB.out.cell 4 _ rfl
  have m5 := HB.out.cell 5 _ rfl
  have m6 := HB.out.cell 6 _ rfl
  have m7 := HB.out.cell 7 _ rfl
  have ml := HB.out.lt
  go_wp2_with fail
  with_reducible refine (H12.out _ (by exact HM.out.keeps HK.out)).mono ?_
  rintro ee w13 ⟨rfl, hk1⟩
  replace HB := Lib.hid (HB.out.keeps hk1)
  replace HK := Lib.hid (HK.out.trans hk1)
  clear hk1 H12 m0 m1 m2 m3 m4 m5 m6 m7 ml
  have m0 := HB.out.cell 0 _ rfl
  have m1 := HB.out.cell 1 _ rfl
  have m2 := HB.out.cell 2 _ rfl
  have m3 := HB.out.cell 3 _ rfl
  have m4 := HB.out.cell 4 _ rfl
  have m5 := HB.out.cell 5 _ rfl
  have m6 := HB.out.cell 6 _ rfl
  have m7 := HB.out.cell 7 _ rfl
  have ml := HB.out.lt
  go_wp2_with fail
  go_ret
  exact ⟨rfl, HK.out⟩
end Go.Proofs.Ytmjodcackmjllaa
