/- The walk of ModesReach. -/
import Derived.Test.YtmjodcackmjllaaD7
import Derived.Test.YtmjodcackmjllaaE1
namespace Go.Proofs.Ytmjodcackmjllaa
open Go.RowKit Go.Shelf
set_option linter.unusedVariables false
set_option linter.unusedSimpArgs false
theorem reach_val {m : RMedl} {s q k : Int} (h1 : medlOk m = true) (h2 : mIn m s = true) (h3 : mIn m q = true) (h4 : 0 ≤ k) : reachR m s q k = (decide (0 < farP m s q) && decide ((farP m s q : Int) - 1 ≤ k), 0) := by
  unfold reachR
  rw [h1, h2, h3, decide_eq_true h4]
  rfl
theorem reach_ok {m : RMedl} {s q k : Int} (h : (reachR m s q k).2 = 0) : medlOk m = true ∧ mIn m s = true ∧ mIn m q = true ∧ 0 ≤ k := by
  unfold reachR at h
  cases h1 : medlOk m
  · rw [h1] at h; simp at h
  · rw [h1] at h
    simp only [cond_true] at h
    cases h2 : mIn m s && (mIn m q && decide (0 ≤ k))
    · rw [h2] at h; simp at h
    · simp only [Bool.and_eq_true, decide_eq_true_eq] at h2
      exact ⟨rfl, h2.1, h2.2.1, h2.2.2⟩
theorem reach_few {m : RMedl} {s q k : Int} (h : (reachR m s q k).2 = 0) : ∃ fw mo, reachR m s q ((m.xs.length : Int) - 1) = (fw, 0) ∧ reachR m s q (k + 1) = (mo, 0) ∧ ((reachR m s q k).1 = true → fw = true ∧ mo = true) := by
  obtain ⟨h1, h2, h3, h4⟩ := reach_ok h
  have hc := medlOk_cnt h1
  have hs := (mIn_iff m s).1 h2
  have hq := (mIn_iff m q).1 h3
  have hF : farP m s q ≤ m.xs.length := bfs_le _ _ _ (by omega) (adj_out h1) _ _
  refine ⟨_, _, reach_val h1 h2 h3 (by omega), reach_val h1 h2 h3 (by omega), fun h5 => ?_⟩
  rw [reach_val h1 h2 h3 h4] at h5
  simp only [Bool.and_eq_true, decide_eq_true_eq] at h5 ⊢
  omega
theorem reach_one {m : RMedl} {c : CS} {q : Int} (h : mayR m c q = true) : reachR m c.m q 1 = (true, 0) := by
  unfold mayR at h
  rw [Bool.and_eq_true] at h
  obtain ⟨hb, hy⟩ := h
  have hab : medlOk m = true ∧ stOk m c = true := by unfold asksB at hb; rw [Bool.and_eq_true] at hb; exact hb
  have hm := ((stOk_iff m c).1 hab.2).2.1
  unfold mayP at hy
  simp only [Bool.and_eq_true, Bool.not_eq_true', decide_eq_false_iff_not] at hy
  obtain ⟨h1, h2, -, h4⟩ := hy
  have i1 := (mIn_iff m c.m).1 hm
  have i2 := (mIn_iff m q).1 h1
  have hF : farP m c.m q = 2 := by
    unfold farP
    refine bfs_one _ _ _ _ (by omega) (by omega) ?_ (by omega)
    unfold adj
    rw [Int.toNat_of_nonneg i1.1, Int.toNat_of_nonneg i2.1]
    exact h4
  rw [reach_val hab.1 hm h1 (by decide), hF]
  rfl
set_option maxRecDepth 100000 in
set_option maxHeartbeats 4000000 in
theorem modesReach_any (m : RMedl) (c : CS) (s q : Int) (ch : Nat) (w : World) (hm : m.In w) (hch : ch < 256) : Calls Try.prog 6 #[m.val, c.val, .int .i64 s, .int .i64 q, .int .u8 ch] w fun e w' => e = .returned (.bool true) ∧ Keeps w w' := by
  have HM := Lib.hid hm
  clear hm
  have HR1 := Lib.hid (reachX_any m s q ch)
  have HR2 := Lib.hid (reachX_any m s q ((m.xs.length : Int) - 1))
  have HR3 := Lib.hid (reachX_any m s q ((ch : Int) + 1))
  have HR4 := Lib.hid (reachX_any m c.m q 1)
  have HMA := Lib.hid (mayX_any m c q)
  have HFW := Lib.hid (@reach_few m s q ch)
  have HON := Lib.hid (@reach_one m c q)
  obtain ⟨A1, hA1⟩ : ∃ A1, A1 = reachR m s q ch := ⟨_, rfl⟩
  obtain ⟨A2, hA2⟩ : ∃ A2, A2 = reachR m s q ((m.xs.length : Int) - 1) := ⟨_, rfl⟩
  obtain ⟨A3, hA3⟩ : ∃ A3, A3 = reachR m s q ((ch : Int) + 1) := ⟨_, rfl⟩
  obtain ⟨A4, hA4⟩ : ∃ A4, A4 = reachR m c.m q 1 := ⟨_, rfl⟩
  obtain ⟨MY, hMY⟩ : ∃ MY, MY = mayR m c q := ⟨_, rfl⟩
  rw [← hA1] at HR1 HFW
  rw [← hA2] at HR2 HFW
  rw [← hA3] at HR3 HFW
  rw [← hA4] at HR4 HON
  rw [← hMY] at HMA HON
  clear hA1 hA2 hA3 hA4 hMY
  obtain ⟨is, e1⟩ := A1
  obtain ⟨one, e4⟩ := A4
  simp only at HFW
  obtain ⟨ca, cc, hcv, hc1, hc2, hc3⟩ := HM.out.c.shape
  clear hc3
  have HX := Lib.hid HM.out.m
  have hmax := HX.out.hmax
  obtain ⟨no, sl, ga, wi, dr, de, cv, cs, ma, mn, mc, xs⟩ := m
  obtain ⟨ct, cp, cm, cx, cb⟩ := c
  simp only at hcv hc1 HX hmax HR2 HR4
  have hlen := HX.out.len
  have hcap := HX.out.hcap

  subst hlen hcv
  have HK := Lib.hid (((Keeps.refl w).alloc (.cells #[.int .i64 no, .int .i64 sl, .int .i64 ga, .int .i64 wi, .int .i64 dr, .int .i64 de, .slice ca cs.length cc, .slice ma xs.length mc] 25)).alloc (.cells #[.int .i64 ct, .int .i64 cp, .int .i64 cm, .int .i64 cx, .int .i64 cb] 27))
  have HB := Lib.hid ((Box.new w 25 #[.int .i64 no, .int .i64 sl, .int .i64 ga, .int .i64 wi, .int .i64 dr, .int .i64 de, .slice ca cs.length cc, .slice ma xs.length mc]).next (.cells #[.int .i64 ct, .int .i64 cp, .int .i64 cm, .int .i64 cx, .int .i64 cb] 27))
  have hz := Box.new (w.alloc (.cells #[.int .i64 no, .int .i64 sl, .int .i64 ga, .int .i64 wi, .int .i64 dr, .int .i64 de, .slice ca cs.length cc, .slice ma xs.length mc] 25)) 27 #[.int .i64 ct, .int .i64 cp, .int .i64 cm, .int .i64 cx, .int .i64 cb]
  rw [World.size_alloc] at hz
  have HA := Lib.hid hz
  clear hz
  have hw1 : IntKind.i64.wrap (ch : Int) = (ch : Int) := IntWalk.i64_in _ (by omega)
  have hw2 : IntKind.i64.wrap ((ch : Int) + 1) = (ch : Int) + 1 := IntWalk.i64_in _ (by omega)
  have hw3 : IntKind.i64.wrap ((xs.length : Int) - 1) = (xs.length : Int) - 1 := IntWalk.i64_in _ (by omega)
  show Calls Try.prog 6 #[.agg #[.int .i64 no, .int .i64 sl, .int .i64 ga, .int .i64 wi, .int .i64 dr, .int .i64 de, .slice ca cs.length cc, .slice ma xs.length mc], .agg #[.int .i64 ct, .int .i64 cp, .int .i64 cm, .int .i64 cx, .int .i64 cb], .int .i64 s, .int .i64 q, .int .u8 ch] w _
  go_enter Try.func6, Try.ntmps6
  go_wp2_with fail
  (with_reducible refine (HR1.out _ (by exact HM.out.keeps HK.out)).mono ?_)
  rintro e w1 ⟨rfl, hk1⟩
  replace HB := Lib.hid (HB.out.keeps hk1)
  replace HA := Lib.hid (HA.out.keeps hk1)
  replace HK := Lib.hid (HK.out.trans hk1)
  clear hk1
  have m0 := HB.out.cell 0 _ rfl
  have m1 := HB.out.cell 1 _ rfl
  have m2 := HB.out.cell 2 _ rfl
  have m3 := HB.out.cell 3 _ rfl
  have m4 := HB.out.cell 4 _ rfl
  have m5 := HB.out.cell 5 _ rfl
  have m6 := HB.out.cell 6 _ rfl
  have m7 := HB.out.cell 7 _ rfl
  have ml := HB.out.lt
  have c0 := HA.out.cell 0 _ rfl
  have c1 := HA.out.cell 1 _ rfl
  have c2 := HA.out.cell 2 _ rfl
  have c3 := HA.out.cell 3 _ rfl
  have c4 := HA.out.cell 4 _ rfl
  have cl := HA.out.lt
  go_wp2_with fail
  (with_reducible refine (begun10_any _).mono ?_)
  rintro e w2 ⟨rfl, hk1⟩
  replace HB := Lib.hid (HB.out.keeps hk1)
  replace HA := Lib.hid (HA.out.keeps hk1)
  replace HK := Lib.hid (HK.out.trans hk1)
  clear hk1 m0 m1 m2 m3 m4 m5 m6 m7 ml c0 c1 c2 c3 c4 cl
  have m0 := HB.out.cell 0 _ rfl
  have m1 := HB.out.cell 1 _ rfl
  have m2 := HB.out.cell 2 _ rfl
  have m3 := HB.out.cell 3 _ rfl
  have m4 := HB.out.cell 4 _ rfl
  have m5 := HB.out.cell 5 _ rfl
  have m6 := HB.out.cell 6 _ rfl
  have m7 := HB.out.cell 7 _ rfl
  have ml := HB.out.lt
  have c0 := HA.out.cell 0 _ rfl
  have c1 := HA.out.cell 1 _ rfl
  have c2 := HA.out.cell 2 _ rfl
  have c3 := HA.out.cell 3 _ rfl
  have c4 := HA.out.cell 4 _ rfl
  have cl := HA.out.lt
  by_cases he1 : e1 = 0
  case neg =>
    have d1 : (e1 != 0) = true := by rw [bne_iff_ne]; exact he1
    clear he1
    go_wp2_with fail
    (with_reducible refine (begun10_any _).mono ?_)
    rintro e w3 ⟨rfl, hk1⟩
    replace HK := Lib.hid (HK.out.trans hk1)
    clear hk1
    go_wp2_with fail
    go_ret
    exact ⟨rfl, HK.out⟩
  subst he1
  obtain ⟨fw, mo, h2, h3, h5⟩ := HFW.out rfl
  subst h2 h3
  have HIS := Lib.hid h5
  clear h5 HFW
  go_wp2_with fail
  (with_reducible refine (HR2.out _ (by exact HM.out.keeps HK.out)).mono ?_)
  rintro e w3 ⟨rfl, hk1⟩
  replace HB := Lib.hid (HB.out.keeps hk1)
  replace HA := Lib.hid (HA.out.keeps hk1)
  replace HK := Lib.hid (HK.out.trans hk1)
  clear hk1 m0 m1 m2 m3 m4 m5 m6 m7 ml c0 c1 c2 c3 c4 cl
  have m0 := HB.out.cell 0 _ rfl
  have m1 := HB.out.cell 1 _ rfl
  have m2 := HB.out.cell 2 _ rfl
  have m3 := HB.out.cell 3 _ rfl
  have m4 := HB.out.cell 4 _ rfl
  have m5 := HB.out.cell 5 _ rfl
  have m6 := HB.out.cell 6 _ rfl
  have m7 := HB.out.cell 7 _ rfl
  have ml := HB.out.lt
  have c0 := HA.out.cell 0 _ rfl
  have c1 := HA.out.cell 1 _ rfl
  have c2 := HA.out.cell 2 _ rfl
  have c3 := HA.out.cell 3 _ rfl
  have c4 := HA.out.cell 4 _ rfl
  have cl := HA.out.lt
  go_wp2_with fail
  (with_reducible refine (HR3.out _ (by exact HM.out.keeps HK.out)).mono ?_)
  rintro e w4 ⟨rfl, hk1⟩
  replace HB := Lib.hid (HB.out.keeps hk1)
  replace HA := Lib.hid (HA.out.keeps hk1)
  replace HK := Lib.hid (HK.out.trans hk1)
  clear hk1 m0 m1 m2 m3 m4 m5 m6 m7 ml c0 c1 c2 c3 c4 cl
  have m0 := HB.out.cell 0 _ rfl
  have m1 := HB.out.cell 1 _ rfl
  have m2 := HB.out.cell 2 _ rfl
  have m3 := HB.out.cell 3 _ rfl
  have m4 := HB.out.cell 4 _ rfl
  have m5 := HB.out.cell 5 _ rfl
  have m6 := HB.out.cell 6 _ rfl
  have m7 := HB.out.cell 7 _ rfl
  have ml := HB.out.lt
  have c0 := HA.out.cell 0 _ rfl
  have c1 := HA.out.cell 1 _ rfl
  have c2 := HA.out.cell 2 _ rfl
  have c3 := HA.out.cell 3 _ rfl
  have c4 := HA.out.cell 4 _ rfl
  have cl := HA.out.lt
  cases MY
  · cases is
    · go_wp2_with fail
      (with_reducible refine (HR4.out _ (by exact HM.out.keeps HK.out)).mono ?_)
      rintro e w5 ⟨rfl, hk1⟩
      replace HB := Lib.hid (HB.out.keeps hk1)
      replace HA := Lib.hid (HA.out.keeps hk1)
      replace HK := Lib.hid (HK.out.trans hk1)
      clear hk1 m0 m1 m2 m3 m4 m5 m6 m7 ml c0 c1 c2 c3 c4 cl
      have m0 := HB.out.cell 0 _ rfl
      have m1 := HB.out.cell 1 _ rfl
      have m2 := HB.out.cell 2 _ rfl
      have m3 := HB.out.cell 3 _ rfl
      have m4 := HB.out.cell 4 _ rfl
      have m5 := HB.out.cell 5 _ rfl
      have m6 := HB.out.cell 6 _ rfl
      have m7 := HB.out.cell 7 _ rfl
      have ml := HB.out.lt
      have c0 := HA.out.cell 0 _ rfl
      have c1 := HA.out.cell 1 _ rfl
      have c2 := HA.out.cell 2 _ rfl
      have c3 := HA.out.cell 3 _ rfl
      have c4 := HA.out.cell 4 _ rfl
      have cl := HA.out.lt
      go_wp2_with fail
      (with_reducible refine (HMA.out _ (by exact HM.out.keeps HK.out)).mono ?_)
      rintro e w6 ⟨rfl, hk1⟩
      replace HK := Lib.hid (HK.out.trans hk1)
      clear hk1
      go_wp2_with fail
      go_ret
      exact ⟨rfl, HK.out⟩
    · obtain ⟨rfl, rfl⟩ := HIS.out rfl
      go_wp2_with fail
      (with_reducible refine (HR4.out _ (by exact HM.out.keeps HK.out)).mono ?_)
      rintro e w5 ⟨rfl, hk1⟩
      replace HB := Lib.hid (HB.out.keeps hk1)
      replace HA := Lib.hid (HA.out.keeps hk1)
      replace HK := Lib.hid (HK.out.trans hk1)
      clear hk1 m0 m1 m2 m3 m4 m5 m6 m7 ml c0 c1 c2 c3 c4 cl
      have m0 := HB.out.cell 0 _ rfl
      have m1 := HB.out.cell 1 _ rfl
      have m2 := HB.out.cell 2 _ rfl
      have m3 := HB.out.cell 3 _ rfl
      have m4 := HB.out.cell 4 _ rfl
      have m5 := HB.out.cell 5 _ rfl
      have m6 := HB.out.cell 6 _ rfl
      have m7 := HB.out.cell 7 _ rfl
      have ml := HB.out.lt
      have c0 := HA.out.cell 0 _ rfl
      have c1 := HA.out.cell 1 _ rfl
      have c2 := HA.out.cell 2 _ rfl
      have c3 := HA.out.cell 3 _ rfl
      have c4 := HA.out.cell 4 _ rfl
      have cl := HA.out.lt
      go_wp2_with fail
      (with_reducible refine (HMA.out _ (by exact HM.out.keeps HK.out)).mono ?_)
      rintro e w6 ⟨rfl, hk1⟩
      replace HK := Lib.hid (HK.out.trans hk1)
      clear hk1
      go_wp2_with fail
      go_ret
      exact ⟨rfl, HK.out⟩
  have hone := HON.out rfl
  simp only [Prod.mk.injEq] at hone
  obtain ⟨rfl, rfl⟩ := hone
  cases is
  · go_wp2_with fail
    (with_reducible refine (HR4.out _ (by exact HM.out.keeps HK.out)).mono ?_)
    rintro e w5 ⟨rfl, hk1⟩
    replace HB := Lib.hid (HB.out.keeps hk1)
    replace HA := Lib.hid (HA.out.keeps hk1)
    replace HK := Lib.hid (HK.out.trans hk1)
    clear hk1 m0 m1 m2 m3 m4 m5 m6 m7 ml c0 c1 c2 c3 c4 cl
    have m0 := HB.out.cell 0 _ rfl
    have m1 := HB.out.cell 1 _ rfl
    have m2 := HB.out.cell 2 _ rfl
    have m3 := HB.out.cell 3 _ rfl
    have m4 := HB.out.cell 4 _ rfl
    have m5 := HB.out.cell 5 _ rfl
    have m6 := HB.out.cell 6 _ rfl
    have m7 := HB.out.cell 7 _ rfl
    have ml := HB.out.lt
    have c0 := HA.out.cell 0 _ rfl
    have c1 := HA.out.cell 1 _ rfl
    have c2 := HA.out.cell 2 _ rfl
    have c3 := HA.out.cell 3 _ rfl
    have c4 := HA.out.cell 4 _ rfl
    have cl := HA.out.lt
    go_wp2_with fail
    (with_reducible refine (HMA.out _ (by exact HM.out.keeps HK.out)).mono ?_)
    rintro e w6 ⟨rfl, hk1⟩
    replace HK := Lib.hid (HK.out.trans hk1)
    clear hk1
    go_wp2_with fail
    go_ret
    exact ⟨rfl, HK.out⟩
  · obtain ⟨rfl, rfl⟩ := HIS.out rfl
    go_wp2_with fail
    (with_reducible refine (HR4.out _ (by exact HM.out.keeps HK.out)).mono ?_)
    rintro e w5 ⟨rfl, hk1⟩
    replace HB := Lib.hid (HB.out.keeps hk1)
    replace HA := Lib.hid (HA.out.keeps hk1)
    replace HK := Lib.hid (HK.out.trans hk1)
    clear hk1 m0 m1 m2 m3 m4 m5 m6 m7 ml c0 c1 c2 c3 c4 cl
    have m0 := HB.out.cell 0 _ rfl
    have m1 := HB.out.cell 1 _ rfl
    have m2 := HB.out.cell 2 _ rfl
    have m3 := HB.out.cell 3 _ rfl
    have m4 := HB.out.cell 4 _ rfl
    have m5 := HB.out.cell 5 _ rfl
    have m6 := HB.out.cell 6 _ rfl
    have m7 := HB.out.cell 7 _ rfl
    have ml := HB.out.lt
    have c0 := HA.out.cell 0 _ rfl
    have c1 := HA.out.cell 1 _ rfl
    have c2 := HA.out.cell 2 _ rfl
    have c3 := HA.out.cell 3 _ rfl
    have c4 := HA.out.cell 4 _ rfl
    have cl := HA.out.lt
    go_wp2_with fail
    (with_reducible refine (HMA.out _ (by exact HM.out.keeps HK.out)).mono ?_)
    rintro e w6 ⟨rfl, hk1⟩
    replace HK := Lib.hid (HK.out.trans hk1)
    clear hk1
    go_wp2_with fail
    go_ret
    exact ⟨rfl, HK.out⟩
end Go.Proofs.Ytmjodcackmjllaa
