/- Layer 10, 4: Ask, Take, May. -/
import Derived.Test.YtmjodcackmjllaaD3
namespace Go.Proofs.Ytmjodcackmjllaa
open Go.RowKit Go.Shelf
set_option linter.unusedVariables false
set_option linter.unusedSimpArgs false
theorem asksB_E {m : RMedl} {c : CS} (h : asksB m c = true) : asksE m c = 0 := by rw [← asksE_eq] at h; exact of_decide_eq_true h
theorem asksB_E2 {m : RMedl} {c : CS} (h : asksB m c = false) : (asksE m c != 0) = true := by rw [← asksE_eq] at h; rw [bne_iff_ne]; exact of_decide_eq_false h
theorem takenP_cases (m : RMedl) (c : CS) (k : Int) : takenP m c k = k ∨ takenP m c k = -1 := by
  unfold takenP; cases asksB m c && mayP m c k
  · exact .inr rfl
  · exact .inl rfl
theorem takenP_may {m : RMedl} {c : CS} (h : asksB m c = true) (k : Int) : decide (0 ≤ takenP m c k) = mayP m c k := by
  unfold takenP
  rw [h, Bool.true_and]
  cases hy : mayP m c k
  · rfl
  · unfold mayP at hy
    rw [Bool.and_eq_true] at hy
    exact decide_eq_true ((mIn_iff m k).1 hy.1).1
set_option maxRecDepth 100000 in
set_option maxHeartbeats 2000000 in
theorem askX_any (m : RMedl) (c : CS) (k : Int) (w : World) (hm : m.In w) : Calls Try.prog 14 #[m.val, c.val, .int .i64 k] w fun e w' => e = .returned (.tuple #[.int .i64 (askR m c k).1, .int .i64 (askR m c k).2]) ∧ Keeps w w' := by
  have HM := Lib.hid hm
  clear hm
  have HAS := Lib.hid (asks_any m c)
  have HIM := Lib.hid (isModeX_any m k)
  have HTK := Lib.hid (taken_any m c k)
  have HIK := Lib.hid (mIn_iff m k)
  have HTC := Lib.hid (takenP_cases m c k)
  have HR : Hid (askR m c k = cond (asksB m c) (cond (decide (k = -1) || mIn m k) (cond (decide (k < 0)) (0, 0) (takenP m c k + 1, 0)) (0, 100)) (0, asksE m c)) := Lib.hid rfl
  have HE : Hid (asksB m c = true → asksE m c = 0) := Lib.hid asksB_E
  have HE2 : Hid (asksB m c = false → (asksE m c != 0) = true) := Lib.hid asksB_E2
  obtain ⟨R, hR⟩ : ∃ R, R = askR m c k := ⟨_, rfl⟩
  rw [← hR] at HR ⊢
  obtain ⟨O, hO⟩ : ∃ O, O = asksB m c := ⟨_, rfl⟩
  rw [← hO] at HR HE HE2
  obtain ⟨E, hE⟩ : ∃ E, E = asksE m c := ⟨_, rfl⟩
  rw [← hE] at HR HE HE2 HAS
  obtain ⟨I, hI⟩ : ∃ I, I = mIn m k := ⟨_, rfl⟩
  rw [← hI] at HR HIM HIK
  obtain ⟨T, hT⟩ : ∃ T, T = takenP m c k := ⟨_, rfl⟩
  rw [← hT] at HR HTK HTC
  clear hR hO hE hI hT
  obtain ⟨ca, cc, hcv, hc1, hc2, hc3⟩ := HM.out.c.shape
  clear hc3
  have HX := Lib.hid HM.out.m
  have hmax := HX.out.hmax
  obtain ⟨no, sl, ga, wi, dr, de, cv, cs, ma, mn, mc, xs⟩ := m
  obtain ⟨ct, cp, cm, cx, cb⟩ := c
  simp only at hcv hc1 HX HIK hmax
  have hlen := HX.out.len
  have hcap := HX.out.hcap

  subst hlen hcv
  have HK := Lib.hid (((Keeps.refl w).alloc (.cells #[.int .i64 no, .int .i64 sl, .int .i64 ga, .int .i64 wi, .int .i64 dr, .int .i64 de, .slice ca cs.length cc, .slice ma xs.length mc] 25)).alloc (.cells #[.int .i64 ct, .int .i64 cp, .int .i64 cm, .int .i64 cx, .int .i64 cb] 27))
  have HB := Lib.hid ((Box.new w 25 #[.int .i64 no, .int .i64 sl, .int .i64 ga, .int .i64 wi, .int .i64 dr, .int .i64 de, .slice ca cs.length cc, .slice ma xs.length mc]).next (.cells #[.int .i64 ct, .int .i64 cp, .int .i64 cm, .int .i64 cx, .int .i64 cb] 27))
  have hz := Box.new (w.alloc (.cells #[.int .i64 no, .int .i64 sl, .int .i64 ga, .int .i64 wi, .int .i64 dr, .int .i64 de, .slice ca cs.length cc, .slice ma xs.length mc] 25)) 27 #[.int .i64 ct, .int .i64 cp, .int .i64 cm, .int .i64 cx, .int .i64 cb]
  rw [World.size_alloc] at hz
  have HA := Lib.hid hz
  clear hz
  show Calls Try.prog 14 #[.agg #[.int .i64 no, .int .i64 sl, .int .i64 ga, .int .i64 wi, .int .i64 dr, .int .i64 de, .slice ca cs.length cc, .slice ma xs.length mc], .agg #[.int .i64 ct, .int .i64 cp, .int .i64 cm, .int .i64 cx, .int .i64 cb], .int .i64 k] w _
  go_enter Try.func14, Try.ntmps14
  go_wp2_with fail
  with_reducible refine (HAS.out _ (by exact HM.out.keeps HK.out)).mono ?_
  rintro e w1 ⟨rfl, hk1⟩
  replace HB := Lib.hid (HB.out.keeps hk1)
  replace HA := Lib.hid (HA.out.keeps hk1)
  replace HK := Lib.hid (HK.out.trans hk1)
  clear hk1
  have m0 := HB.out.cell 0 _ rfl
  have m1 := HB.out.cell 1 _ rfl
  have m2 := HB.out.cell 2 _ rfl
  have m3 := HB.out.cell 3 _ rfl
  have m4 := HB.out.cell 4 _ rfl
  have m5 := HB.out.cell 5 _ rfl
  have m6 := HB.out.cell 6 _ rfl
  have m7 := HB.out.cell 7 _ rfl
  have ml := HB.out.lt
  have c0 := HA.out.cell 0 _ rfl
  have c1 := HA.out.cell 1 _ rfl
  have c2 := HA.out.cell 2 _ rfl
  have c3 := HA.out.cell 3 _ rfl
  have c4 := HA.out.cell 4 _ rfl
  have cl := HA.out.lt
  cases O
  · have he := HE2.out rfl
    simp only [cond_false] at HR
    go_wp2_with fail
    go_ret2
    exact ⟨by rw [HR.out]; rfl, HK.out⟩
  obtain rfl : E = 0 := HE.out rfl
  simp only [cond_true] at HR
  by_cases h0 : k = -1
  · subst h0
    have HR2 : Hid (R = (0, 0)) := Lib.hid (by rw [HR.out]; simp)
    go_wp2_with fail
    go_ret2
    exact ⟨by rw [HR2.out]; rfl, HK.out⟩
  have d0 : (k != -1) = true := by rw [bne_iff_ne]; exact h0
  rw [decide_eq_false h0, Bool.false_or] at HR
  go_wp2_with fail
  with_reducible refine (HIM.out _ (by exact HM.out.keeps HK.out)).mono ?_
  rintro e w2 ⟨rfl, hk1⟩
  replace HB := Lib.hid (HB.out.keeps hk1)
  replace HA := Lib.hid (HA.out.keeps hk1)
  replace HK := Lib.hid (HK.out.trans hk1)
  clear hk1 m0 m1 m2 m3 m4 m5 m6 m7 ml c0 c1 c2 c3 c4 cl
  have m0 := HB.out.cell 0 _ rfl
  have m1 := HB.out.cell 1 _ rfl
  have m2 := HB.out.cell 2 _ rfl
  have m3 := HB.out.cell 3 _ rfl
  have m4 := HB.out.cell 4 _ rfl
  have m5 := HB.out.cell 5 _ rfl
  have m6 := HB.out.cell 6 _ rfl
  have m7 := HB.out.cell 7 _ rfl
  have ml := HB.out.lt
  have c0 := HA.out.cell 0 _ rfl
  have c1 := HA.out.cell 1 _ rfl
  have c2 := HA.out.cell 2 _ rfl
  have c3 := HA.out.cell 3 _ rfl
  have c4 := HA.out.cell 4 _ rfl
  have cl := HA.out.lt
  cases I
  · simp only [cond_false] at HR
    go_wp2_with fail
    go_ret2
    exact ⟨by rw [HR.out]; rfl, HK.out⟩
  have hik := HIK.out.1 rfl
  simp only [cond_true] at HR
  have d1 : decide (k < 0) = false := decide_eq_false (by omega)
  rw [d1] at HR
  simp only [cond_false] at HR
  have htc : -1 ≤ T ∧ T < (xs.length : Int) := by rcases HTC.out with h | h <;> omega
  have hw1 : IntKind.i64.wrap (T + 1) = T + 1 := IntWalk.i64_in _ (by omega)
  clear HIK HTC
  go_wp2_with fail
  with_reducible refine (HTK.out _ (by exact HM.out.keeps HK.out)).mono ?_
  rintro e w3 ⟨rfl, hk1⟩
  replace HB := Lib.hid (HB.out.keeps hk1)
  replace HA := Lib.hid (HA.out.keeps hk1)
  replace HK := Lib.hid (HK.out.trans hk1)
  clear hk1 m0 m1 m2 m3 m4 m5 m6 m7 ml c0 c1 c2 c3 c4 cl
  have m0 := HB.out.cell 0 _ rfl
  have m1 := HB.out.cell 1 _ rfl
  have m2 := HB.out.cell 2 _ rfl
  have m3 := HB.out.cell 3 _ rfl
  have m4 := HB.out.cell 4 _ rfl
  have m5 := HB.out.cell 5 _ rfl
  have m6 := HB.out.cell 6 _ rfl
  have m7 := HB.out.cell 7 _ rfl
  have ml := HB.out.lt
  have c0 := HA.out.cell 0 _ rfl
  have c1 := HA.out.cell 1 _ rfl
  have c2 := HA.out.cell 2 _ rfl
  have c3 := HA.out.cell 3 _ rfl
  have c4 := HA.out.cell 4 _ rfl
  have cl := HA.out.lt
  go_wp2_with fail
  go_ret2
  exact ⟨by rw [HR.out]; rfl, HK.out⟩
set_option maxRecDepth 100000 in
set_option maxHeartbeats 2000000 in
theorem mayX_any (m : RMedl) (c : CS) (k : Int) (w : World) (hm : m.In w) : Calls Try.prog 24 #[m.val, c.val, .int .i64 k] w fun e w' => e = .returned (.bool (mayR m c k)) ∧ Keeps w w' := by
  have HM := Lib.hid hm
  clear hm
  have HAS := Lib.hid (asks_any m c)
  have HMY : Hid (asksB m c = true → ∀ w, m.In w → Calls Try.prog 58 #[m.val, c.val, .int .i64 k] w fun e w' => e = .returned (.bool (mayP m c k)) ∧ Keeps w w') := Lib.hid (fun h w hm => may_any m c k w hm h)
  have HR : Hid (mayR m c k = (asksB m c && mayP m c k)) := Lib.hid rfl
  have HE : Hid (asksB m c = true → asksE m c = 0) := Lib.hid asksB_E
  have HE2 : Hid (asksB m c = false → (asksE m c == 0) = false) := Lib.hid (fun h => by have := asksB_E2 h; rw [bne_iff_ne] at this; rw [beq_eq_false_iff_ne]; exact this)
  obtain ⟨R, hR⟩ : ∃ R, R = mayR m c k := ⟨_, rfl⟩
  rw [← hR] at HR ⊢
  obtain ⟨O, hO⟩ : ∃ O, O = asksB m c := ⟨_, rfl⟩
  rw [← hO] at HR HE HE2 HMY
  obtain ⟨E, hE⟩ : ∃ E, E = asksE m c := ⟨_, rfl⟩
  rw [← hE] at HE HE2 HAS
  obtain ⟨Y, hY⟩ : ∃ Y, Y = mayP m c k := ⟨_, rfl⟩
  rw [← hY] at HR HMY
  clear hR hO hE hY
  obtain ⟨ca, cc, hcv, hc1, hc2, hc3⟩ := HM.out.c.shape
  clear hc3
  have HX := Lib.hid HM.out.m
  obtain ⟨no, sl, ga, wi, dr, de, cv, cs, ma, mn, mc, xs⟩ := m
  obtain ⟨ct, cp, cm, cx, cb⟩ := c
  simp only at hcv hc1 HX
  have hlen := HX.out.len
  have hcap := HX.out.hcap
  have hmax := HX.out.hmax
  subst hlen hcv
  have HK := Lib.hid (((Keeps.refl w).alloc (.cells #[.int .i64 no, .int .i64 sl, .int .i64 ga, .int .i64 wi, .int .i64 dr, .int .i64 de, .slice ca cs.length cc, .slice ma xs.length mc] 25)).alloc (.cells #[.int .i64 ct, .int .i64 cp, .int .i64 cm, .int .i64 cx, .int .i64 cb] 27))
  have HB := Lib.hid ((Box.new w 25 #[.int .i64 no, .int .i64 sl, .int .i64 ga, .int .i64 wi, .int .i64 dr, .int .i64 de, .slice ca cs.length cc, .slice ma xs.length mc]).next (.cells #[.int .i64 ct, .int .i64 cp, .int .i64 cm, .int .i64 cx, .int .i64 cb] 27))
  have hz := Box.new (w.alloc (.cells #[.int .i64 no, .int .i64 sl, .int .i64 ga, .int .i64 wi, .int .i64 dr, .int .i64 de, .slice ca cs.length cc, .slice ma xs.length mc] 25)) 27 #[.int .i64 ct, .int .i64 cp, .int .i64 cm, .int .i64 cx, .int .i64 cb]
  rw [World.size_alloc] at hz
  have HA := Lib.hid hz
  clear hz
  show Calls Try.prog 24 #[.agg #[.int .i64 no, .int .i64 sl, .int .i64 ga, .int .i64 wi, .int .i64 dr, .int .i64 de, .slice ca cs.length cc, .slice ma xs.length mc], .agg #[.int .i64 ct, .int .i64 cp, .int .i64 cm, .int .i64 cx, .int .i64 cb], .int .i64 k] w _
  go_enter Try.func24, Try.ntmps24
  go_wp2_with fail
  with_reducible refine (HAS.out _ (by exact HM.out.keeps HK.out)).mono ?_
  rintro e w1 ⟨rfl, hk1⟩
  replace HB := Lib.hid (HB.out.keeps hk1)
  replace HA := Lib.hid (HA.out.keeps hk1)
  replace HK := Lib.hid (HK.out.trans hk1)
  clear hk1
  have m0 := HB.out.cell 0 _ rfl
  have m1 := HB.out.cell 1 _ rfl
  have m2 := HB.out.cell 2 _ rfl
  have m3 := HB.out.cell 3 _ rfl
  have m4 := HB.out.cell 4 _ rfl
  have m5 := HB.out.cell 5 _ rfl
  have m6 := HB.out.cell 6 _ rfl
  have m7 := HB.out.cell 7 _ rfl
  have ml := HB.out.lt
  have c0 := HA.out.cell 0 _ rfl
  have c1 := HA.out.cell 1 _ rfl
  have c2 := HA.out.cell 2 _ rfl
  have c3 := HA.out.cell 3 _ rfl
  have c4 := HA.out.cell 4 _ rfl
  have cl := HA.out.lt
  cases O
  · have he := HE2.out rfl
    rw [Bool.false_and] at HR
    go_wp2_with fail
    go_ret
    exact ⟨by rw [HR.out]; rfl, HK.out⟩
  obtain rfl : E = 0 := HE.out rfl
  rw [Bool.true_and] at HR
  replace HMY := Lib.hid (HMY.out rfl)
  go_wp2_with fail
  with_reducible refine (HMY.out _ (by exact HM.out.keeps HK.out)).mono ?_
  rintro e w2 ⟨rfl, hk1⟩
  replace HB := Lib.hid (HB.out.keeps hk1)
  replace HA := Lib.hid (HA.out.keeps hk1)
  replace HK := Lib.hid (HK.out.trans hk1)
  clear hk1 m0 m1 m2 m3 m4 m5 m6 m7 ml c0 c1 c2 c3 c4 cl
  have m0 := HB.out.cell 0 _ rfl
  have m1 := HB.out.cell 1 _ rfl
  have m2 := HB.out.cell 2 _ rfl
  have m3 := HB.out.cell 3 _ rfl
  have m4 := HB.out.cell 4 _ rfl
  have m5 := HB.out.cell 5 _ rfl
  have m6 := HB.out.cell 6 _ rfl
  have m7 := HB.out.cell 7 _ rfl
  have ml := HB.out.lt
  have c0 := HA.out.cell 0 _ rfl
  have c1 := HA.out.cell 1 _ rfl
  have c2 := HA.out.cell 2 _ rfl
  have c3 := HA.out.cell 3 _ rfl
  have c4 := HA.out.cell 4 _ rfl
  have cl := HA.out.lt
  go_wp2_with fail
  go_ret
  exact ⟨by rw [HR.out]; rfl, HK.out⟩
set_option maxRecDepth 100000 in
set_option maxHeartbeats 2000000 in
theorem takeX_any (m : RMedl) (c : CS) (r : Int) (w : World) (hm : m.In w) : Calls Try.prog 16 #[m.val, c.val, .int .i64 r] w fun e w' => e = .returned (.tuple #[(takeR m c r).1.val, .int .i64 (takeR m c r).2]) ∧ Keeps w w' := by
  have HM := Lib.hid hm
  clear hm
  have HAS := Lib.hid (asks_any m c)
  have HTK := Lib.hid (taken_any m c (r - 1))
  have HR : Hid (takeR m c r = cond (asksB m c) (cond (decide (0 ≤ r) && decide (r ≤ m.xs.length)) (cond (decide (0 < r) && mayP m c (r - 1)) ⟨c.t, c.p, c.m, r, c.b⟩ c, 0) (CS.zero, 100)) (CS.zero, asksE m c)) := Lib.hid rfl
  have HE : Hid (asksB m c = true → asksE m c = 0) := Lib.hid asksB_E
  have HE2 : Hid (asksB m c = false → (asksE m c != 0) = true) := Lib.hid asksB_E2
  have HTM : Hid (asksB m c = true → decide (0 ≤ takenP m c (r - 1)) = mayP m c (r - 1)) := Lib.hid (fun h => takenP_may h (r - 1))
  obtain ⟨R, hR⟩ : ∃ R, R = takeR m c r := ⟨_, rfl⟩
  rw [← hR] at HR ⊢
  obtain ⟨O, hO⟩ : ∃ O, O = asksB m c := ⟨_, rfl⟩
  rw [← hO] at HR HE HE2 HTM
  obtain ⟨E, hE⟩ : ∃ E, E = asksE m c := ⟨_, rfl⟩
  rw [← hE] at HR HE HE2 HAS
  obtain ⟨Y, hY⟩ : ∃ Y, Y = mayP m c (r - 1) := ⟨_, rfl⟩
  rw [← hY] at HR HTM
  obtain ⟨T, hT⟩ : ∃ T, T = takenP m c (r - 1) := ⟨_, rfl⟩
  rw [← hT] at HTK HTM
  clear hR hO hE hY hT
  obtain ⟨ca, cc, hcv, hc1, hc2, hc3⟩ := HM.out.c.shape
  clear hc3
  have HX := Lib.hid HM.out.m
  have hmax := HX.out.hmax
  obtain ⟨no, sl, ga, wi, dr, de, cv, cs, ma, mn, mc, xs⟩ := m
  obtain ⟨ct, cp, cm, cx, cb⟩ := c
  simp only at hcv hc1 HX hmax HR
  have hlen := HX.out.len
  have hcap := HX.out.hcap

  subst hlen hcv
  have HK0 := Lib.hid (((Keeps.refl w).alloc (.cells #[.int .i64 no, .int .i64 sl, .int .i64 ga, .int .i64 wi, .int .i64 dr, .int .i64 de, .slice ca cs.length cc, .slice ma xs.length mc] 25)).alloc (.cells #[.int .i64 ct, .int .i64 cp, .int .i64 cm, .int .i64 cx, .int .i64 cb] 27))
  have HB0 := Lib.hid ((Box.new w 25 #[.int .i64 no, .int .i64 sl, .int .i64 ga, .int .i64 wi, .int .i64 dr, .int .i64 de, .slice ca cs.length cc, .slice ma xs.length mc]).next (.cells #[.int .i64 ct, .int .i64 cp, .int .i64 cm, .int .i64 cx, .int .i64 cb] 27))
  have hz := Box.new (w.alloc (.cells #[.int .i64 no, .int .i64 sl, .int .i64 ga, .int .i64 wi, .int .i64 dr, .int .i64 de, .slice ca cs.length cc, .slice ma xs.length mc] 25)) 27 #[.int .i64 ct, .int .i64 cp, .int .i64 cm, .int .i64 cx, .int .i64 cb]
  rw [World.size_alloc] at hz
  have HA0 := Lib.hid hz
  clear hz
  have HK := Lib.hid (HK0.out.alloc (.cells #[.int .i64 0, .int .i64 0, .int .i64 0, .int .i64 0, .int .i64 0] 27))
  have HB := Lib.hid (HB0.out.next (.cells #[.int .i64 0, .int .i64 0, .int .i64 0, .int .i64 0, .int .i64 0] 27))
  have HA := Lib.hid (HA0.out.next (.cells #[.int .i64 0, .int .i64 0, .int .i64 0, .int .i64 0, .int .i64 0] 27))
  have hzz := Box.new ((w.alloc (.cells #[.int .i64 no, .int .i64 sl, .int .i64 ga, .int .i64 wi, .int .i64 dr, .int .i64 de, .slice ca cs.length cc, .slice ma xs.length mc] 25)).alloc (.cells #[.int .i64 ct, .int .i64 cp, .int .i64 cm, .int .i64 cx, .int .i64 cb] 27)) 27 #[.int .i64 0, .int .i64 0, .int .i64 0, .int .i64 0, .int .i64 0]
  simp only [World.size_alloc] at hzz
  have HZ := Lib.hid hzz
  clear hzz HK0 HB0 HA0
  show Calls Try.prog 16 #[.agg #[.int .i64 no, .int .i64 sl, .int .i64 ga, .int .i64 wi, .int .i64 dr, .int .i64 de, .slice ca cs.length cc, .slice ma xs.length mc], .agg #[.int .i64 ct, .int .i64 cp, .int .i64 cm, .int .i64 cx, .int .i64 cb], .int .i64 r] w _
  go_enter Try.func16, Try.ntmps16
  go_wp2_with fail
  with_reducible refine (HAS.out _ (by exact HM.out.keeps HK.out)).mono ?_
  rintro e w1 ⟨rfl, hk1⟩
  replace HB := Lib.hid (HB.out.keeps hk1)
  replace HA := Lib.hid (HA.out.keeps hk1)
  replace HZ := Lib.hid (HZ.out.keeps hk1)
  replace HK := Lib.hid (HK.out.trans hk1)
  clear hk1
  have m0 := HB.out.cell 0 _ rfl
  have m1 := HB.out.cell 1 _ rfl
  have m2 := HB.out.cell 2 _ rfl
  have m3 := HB.out.cell 3 _ rfl
  have m4 := HB.out.cell 4 _ rfl
  have m5 := HB.out.cell 5 _ rfl
  have m6 := HB.out.cell 6 _ rfl
  have m7 := HB.out.cell 7 _ rfl
  have ml := HB.out.lt
  have c0 := HA.out.cell 0 _ rfl
  have c1 := HA.out.cell 1 _ rfl
  have c2 := HA.out.cell 2 _ rfl
  have c3 := HA.out.cell 3 _ rfl
  have c4 := HA.out.cell 4 _ rfl
  have cl := HA.out.lt
  have z0 := HZ.out.cell 0 _ rfl
  have z1 := HZ.out.cell 1 _ rfl
  have z2 := HZ.out.cell 2 _ rfl
  have z3 := HZ.out.cell 3 _ rfl
  have z4 := HZ.out.cell 4 _ rfl
  have zl := HZ.out.lt
  have zf := HZ.out.frozen
  have cf := HA.out.frozen
  cases O
  · have he := HE2.out rfl
    simp only [cond_false] at HR
    go_wp2_with fail
    refine bodyPost_ret (v := .tuple #[.agg #[.int .i64 0, .int .i64 0, .int .i64 0, .int .i64 0, .int .i64 0], .int .i64 E]) (by simp [results, Try.results16, go_sem, *]) rfl ⟨by rw [HR.out]; rfl, ?_⟩
    repeat (first | with_reducible exact HK.out | with_reducible refine Keeps.setCell ?_ (by simp <;> omega) _ | with_reducible refine Keeps.alloc ?_ _)
  obtain rfl : E = 0 := HE.out rfl
  replace HTM := Lib.hid (HTM.out rfl)
  simp only [cond_true] at HR
  by_cases h0 : r < 0
  · have d0 : decide (r < 0) = true := decide_eq_true h0
    have HR2 : Hid (R = (CS.zero, 100)) := Lib.hid (by rw [HR.out, decide_eq_false (show ¬ 0 ≤ r by omega)]; rfl)
    go_wp2_with fail
    refine bodyPost_ret (v := .tuple #[.agg #[.int .i64 0, .int .i64 0, .int .i64 0, .int .i64 0, .int .i64 0], .int .i64 100]) (by simp [results, Try.results16, go_sem, *]) rfl ⟨(by rw [HR2.out] <;> rfl), ?_⟩
    repeat (first | with_reducible exact HK.out | with_reducible refine Keeps.setCell ?_ (by simp <;> omega) _ | with_reducible refine Keeps.alloc ?_ _)
  have d0 : decide (r < 0) = false := decide_eq_false h0
  by_cases h1 : (xs.length : Int) < r
  · have d1 : decide ((xs.length : Int) < r) = true := decide_eq_true h1
    have HR2 : Hid (R = (CS.zero, 100)) := Lib.hid (by rw [HR.out, decide_eq_false (show ¬ r ≤ (xs.length : Int) by omega), Bool.and_false]; rfl)
    go_wp2_with fail
    refine bodyPost_ret (v := .tuple #[.agg #[.int .i64 0, .int .i64 0, .int .i64 0, .int .i64 0, .int .i64 0], .int .i64 100]) (by simp [results, Try.results16, go_sem, *]) rfl ⟨(by rw [HR2.out] <;> rfl), ?_⟩
    repeat (first | with_reducible exact HK.out | with_reducible refine Keeps.setCell ?_ (by simp <;> omega) _ | with_reducible refine Keeps.alloc ?_ _)
  have d1 : decide ((xs.length : Int) < r) = false := decide_eq_false h1
  rw [decide_eq_true (show 0 ≤ r by omega), decide_eq_true (show r ≤ (xs.length : Int) by omega)] at HR
  simp only [Bool.and_true, cond_true] at HR
  by_cases h2 : 0 < r
  case neg =>
    have d2 : decide (0 < r) = false := decide_eq_false h2
    have HR2 : Hid (R = (⟨ct, cp, cm, cx, cb⟩, 0)) := Lib.hid (by rw [HR.out, d2]; rfl)
    go_wp2_with fail
    refine bodyPost_ret (v := .tuple #[.agg #[.int .i64 ct, .int .i64 cp, .int .i64 cm, .int .i64 cx, .int .i64 cb], .int .i64 0]) (by simp [results, Try.results16, go_sem, *]) rfl ⟨(by rw [HR2.out] <;> rfl), ?_⟩
    repeat (first | with_reducible exact HK.out | with_reducible refine Keeps.setCell ?_ (by simp <;> omega) _ | with_reducible refine Keeps.alloc ?_ _)
  have d2 : decide (0 < r) = true := decide_eq_true h2
  have hw1 : IntKind.i64.wrap (r - 1) = r - 1 := IntWalk.i64_in _ (by omega)
  rw [d2, Bool.true_and] at HR
  go_wp2_with fail
  with_reducible refine (HTK.out _ (by exact HM.out.keeps HK.out)).mono ?_
  rintro e w2 ⟨rfl, hk1⟩
  clear z0 z1 z2 z3 z4 zl zf cf
  replace HB := Lib.hid (HB.out.keeps hk1)
  replace HA := Lib.hid (HA.out.keeps hk1)
  replace HZ := Lib.hid (HZ.out.keeps hk1)
  replace HK := Lib.hid (HK.out.trans hk1)
  clear hk1 m0 m1 m2 m3 m4 m5 m6 m7 ml c0 c1 c2 c3 c4 cl
  have m0 := HB.out.cell 0 _ rfl
  have m1 := HB.out.cell 1 _ rfl
  have m2 := HB.out.cell 2 _ rfl
  have m3 := HB.out.cell 3 _ rfl
  have m4 := HB.out.cell 4 _ rfl
  have m5 := HB.out.cell 5 _ rfl
  have m6 := HB.out.cell 6 _ rfl
  have m7 := HB.out.cell 7 _ rfl
  have ml := HB.out.lt
  have c0 := HA.out.cell 0 _ rfl
  have c1 := HA.out.cell 1 _ rfl
  have c2 := HA.out.cell 2 _ rfl
  have c3 := HA.out.cell 3 _ rfl
  have c4 := HA.out.cell 4 _ rfl
  have cl := HA.out.lt
  have z0 := HZ.out.cell 0 _ rfl
  have z1 := HZ.out.cell 1 _ rfl
  have z2 := HZ.out.cell 2 _ rfl
  have z3 := HZ.out.cell 3 _ rfl
  have z4 := HZ.out.cell 4 _ rfl
  have zl := HZ.out.lt
  have zf := HZ.out.frozen
  have cf := HA.out.frozen
  cases Y
  · have d3 : decide (0 ≤ T) = false := HTM.out
    have HR2 : Hid (R = (⟨ct, cp, cm, cx, cb⟩, 0)) := Lib.hid (by rw [HR.out]; rfl)
    go_wp2_with fail
    refine bodyPost_ret (v := .tuple #[.agg #[.int .i64 ct, .int .i64 cp, .int .i64 cm, .int .i64 cx, .int .i64 cb], .int .i64 0]) (by simp [results, Try.results16, go_sem, *]) rfl ⟨(by rw [HR2.out] <;> rfl), ?_⟩
    repeat (first | with_reducible exact HK.out | with_reducible refine Keeps.setCell ?_ (by simp <;> omega) _ | with_reducible refine Keeps.alloc ?_ _)
  · have d3 : decide (0 ≤ T) = true := HTM.out
    have HR2 : Hid (R = (⟨ct, cp, cm, r, cb⟩, 0)) := Lib.hid (by rw [HR.out]; rfl)
    go_wp2_with fail
    refine bodyPost_ret (v := .tuple #[.agg #[.int .i64 ct, .int .i64 cp, .int .i64 cm, .int .i64 r, .int .i64 cb], .int .i64 0]) (by simp [results, Try.results16, go_sem, *]) rfl ⟨(by rw [HR2.out] <;> rfl), ?_⟩
    repeat (first | with_reducible exact HK.out | with_reducible refine Keeps.setCell ?_ (by simp <;> omega) _ | with_reducible refine Keeps.alloc ?_ _)
end Go.Proofs.Ytmjodcackmjllaa
