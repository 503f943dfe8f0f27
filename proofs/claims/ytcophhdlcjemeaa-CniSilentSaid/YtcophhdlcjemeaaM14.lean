/- The walks of layer 20, 1: Open. -/
import Derived.Test.YtcophhdlcjemeaaM13
namespace Go.Proofs.Ytcophhdlcjemeaa
open Go.RowKit Go.Shelf
set_option linter.unusedVariables false
set_option linter.unusedSimpArgs false
abbrev spanVal (a b : Int) : Value := .agg #[.int .i64 a, .int .i64 b]
def openArgs (m : RMedl) (off id pos : Int) : Prop := 0 ≤ id ∧ id < m.nodes ∧ 0 ≤ pos ∧ pos < m.nodes ∧ -(m.window / 2) ≤ off ∧ off ≤ m.window / 2
instance (m : RMedl) (off id pos : Int) : Decidable (openArgs m off id pos) := by unfold openArgs; exact inferInstance
/-- when a guardian is open: from, to, the error -/
def openRes (m : RMedl) (c : RClk) (off id pos : Int) : Int × Int × Int :=
  if clkErr m c = 0 then (if openArgs m off id pos then (if id = pos then (max (c.start + off + m.gap - m.window) 0, c.start + off + m.gap + m.mair + m.window, 0) else (0, 0, 0)) else (0, 0, 2)) else (0, 0, clkErr m c)
abbrev openVal (r : Int × Int × Int) : Value := .tuple #[spanVal r.1 r.2.1, .int .i64 r.2.2]
theorem clkErr_0 {m : RMedl} {c : RClk} (h : clkErr m c = 0) : medlOk m = true ∧ clkOk m.window c = true := by
  unfold clkErr at h
  cases h1 : medlOk m <;> cases h2 : clkOk m.window c <;> simp [h1, h2] at h ⊢
theorem clkOk_nums {f : Int} {c : RClk} (h : clkOk f c = true) : 0 ≤ c.start ∧ c.start ≤ 1099494850560 := by
  unfold clkOk clkNums at h
  simp only [Bool.and_eq_true, decide_eq_true_eq] at h
  omega
set_option maxRecDepth 100000 in
set_option maxHeartbeats 1000000 in
theorem open_any (m : RMedl) (c : RClk) (off id pos : Int) (w : World) (hm : m.In w) (hc : c.In w) :
    Calls Try.prog 12 #[m.val, c.val, .int .i64 off, .int .i64 id, .int .i64 pos] w fun e w' => e = .returned (openVal (openRes m c off id pos)) ∧ Keeps w w' := by
  have HM := Lib.hid hm
  have HC := Lib.hid hc
  clear hm hc
  have hair : 34 ≤ m.mair ∧ m.mair ≤ 4000 := mairI_le _ _
  have HCH := Lib.hid (kcheck_any m c)
  have HAI := Lib.hid (mair_any m)
  have HOK : Hid (clkErr m c = 0 → (0 ≤ m.window ∧ m.window ≤ 1048576 ∧ 0 ≤ m.gap ∧ m.gap ≤ 1048576 ∧ 0 ≤ c.start ∧ c.start ≤ 1099494850560)) := Lib.hid (fun h => by
    have h1 := medlOk_nums (clkErr_0 h).1
    have h2 := clkOk_nums (clkErr_0 h).2
    omega)
  have HR : Hid (openRes m c off id pos = if clkErr m c = 0 then (if openArgs m off id pos then (if id = pos then (max (c.start + off + m.gap - m.window) 0, c.start + off + m.gap + m.mair + m.window, 0) else (0, 0, 0)) else (0, 0, 2)) else (0, 0, clkErr m c)) := Lib.hid rfl
  obtain ⟨R, hR⟩ : ∃ R, R = openRes m c off id pos := ⟨_, rfl⟩
  rw [← hR] at HR ⊢
  clear hR
  obtain ⟨E, hE⟩ : ∃ E, E = clkErr m c := ⟨_, rfl⟩
  rw [← hE] at HR HCH HOK
  clear hE
  obtain ⟨A, hA⟩ : ∃ A, A = m.mair := ⟨_, rfl⟩
  rw [← hA] at HR HAI hair
  clear hA
  obtain ⟨ca, cc, hcv, hc1, hc2, hc3⟩ := HM.out.c.shape
  obtain ⟨da, dc, hdv, hd1, hd2, hd3⟩ := HC.out.d.shape
  clear hc3 hd3
  obtain ⟨no, sl, ga, wi, dr, de, cv, cs, ma, mn, mc, xs⟩ := m
  obtain ⟨st, so, dv, ds⟩ := c
  simp only at hcv hdv hc1 hd1 HOK HCH HAI
  simp only [openArgs] at HR
  subst hcv hdv
  have HK := Lib.hid ((((Keeps.refl w).alloc (.cells #[.int .i64 no, .int .i64 sl, .int .i64 ga, .int .i64 wi, .int .i64 dr, .int .i64 de, .slice ca cs.length cc, .slice ma mn mc] 25)).alloc (.cells #[.int .i64 st, .int .i64 so, .slice da ds.length dc] 28)).alloc (.cells #[.int .i64 0, .int .i64 0] 30))
  have HB1 := Lib.hid (((Box.new w 25 #[.int .i64 no, .int .i64 sl, .int .i64 ga, .int .i64 wi, .int .i64 dr, .int .i64 de, .slice ca cs.length cc, .slice ma mn mc]).next (.cells #[.int .i64 st, .int .i64 so, .slice da ds.length dc] 28)).next (.cells #[.int .i64 0, .int .i64 0] 30))
  have hb := (Box.new (w.alloc (.cells #[.int .i64 no, .int .i64 sl, .int .i64 ga, .int .i64 wi, .int .i64 dr, .int .i64 de, .slice ca cs.length cc, .slice ma mn mc] 25)) 28 #[.int .i64 st, .int .i64 so, .slice da ds.length dc]).next (.cells #[.int .i64 0, .int .i64 0] 30)
  rw [World.size_alloc] at hb
  have HB2 := Lib.hid hb
  clear hb
  have hb := Box.new ((w.alloc (.cells #[.int .i64 no, .int .i64 sl, .int .i64 ga, .int .i64 wi, .int .i64 dr, .int .i64 de, .slice ca cs.length cc, .slice ma mn mc] 25)).alloc (.cells #[.int .i64 st, .int .i64 so, .slice da ds.length dc] 28)) 30 #[.int .i64 0, .int .i64 0]
  rw [World.size_alloc, World.size_alloc] at hb
  have HB3 := Lib.hid hb
  clear hb
  show Calls Try.prog 12 #[.agg #[.int .i64 no, .int .i64 sl, .int .i64 ga, .int .i64 wi, .int .i64 dr, .int .i64 de, .slice ca cs.length cc, .slice ma mn mc], .agg #[.int .i64 st, .int .i64 so, .slice da ds.length dc], .int .i64 off, .int .i64 id, .int .i64 pos] w _
  go_enter Try.func12, Try.ntmps12
  go_wp2_with fail
  with_reducible refine (HCH.out _ (by exact HM.out.keeps HK.out) (by exact HC.out.keeps HK.out)).mono ?_
  rintro e w1 ⟨rfl, hk1⟩
  replace HK := Lib.hid (HK.out.trans hk1)
  replace HB1 := Lib.hid (HB1.out.keeps hk1)
  replace HB2 := Lib.hid (HB2.out.keeps hk1)
  replace HB3 := Lib.hid (HB3.out.keeps hk1)
  have z0 := HB3.out.cell 0 _ rfl
  have z1 := HB3.out.cell 1 _ rfl
  have zf := HB3.out.frozen
  have zl := HB3.out.lt
  clear hk1 HCH
  have m0 := HB1.out.cell 0 _ rfl
  have m1 := HB1.out.cell 1 _ rfl
  have m2 := HB1.out.cell 2 _ rfl
  have m3 := HB1.out.cell 3 _ rfl
  have m4 := HB1.out.cell 4 _ rfl
  have m5 := HB1.out.cell 5 _ rfl
  have m6 := HB1.out.cell 6 _ rfl
  have m7 := HB1.out.cell 7 _ rfl
  have ml := HB1.out.lt
  have k0 := HB2.out.cell 0 _ rfl
  have k1 := HB2.out.cell 1 _ rfl
  have k2 := HB2.out.cell 2 _ rfl
  have kl := HB2.out.lt
  by_cases hE : E = 0
  case neg =>
    have d0 : (E != 0) = true := by rw [bne_iff_ne]; exact hE
    have HRR : Hid (R = (0, 0, E)) := Lib.hid (by rw [HR.out, if_neg hE])
    clear HR hE
    go_wp2_with fail
    rw [HRR.out]
    exact bodyPost_ret (by simp [results, Try.results12, go_sem, *]) rfl ⟨rfl, (HK.out.setCell (by simp; omega) _).setCell (by simp; omega) _⟩
  have hb := HOK.out hE
  have d0 : (E != 0) = false := by rw [bne_eq_false_iff_eq]; exact hE
  replace HR := Lib.hid (HR.out.trans (if_pos hE))
  clear hE HOK
  obtain ⟨b1, b2, b3, b4, b5, b6⟩ := hb
  have HNO : Hid (¬ (0 ≤ id ∧ id < no ∧ 0 ≤ pos ∧ pos < no ∧ -(wi / 2) ≤ off ∧ off ≤ wi / 2) → R = (0, 0, 2)) := Lib.hid (fun h => by rw [HR.out, if_neg h])
  by_cases t1 : id < 0
  · have d1 : decide (id < 0) = true := by simpa using t1
    have HE := Lib.hid (HNO.out (by omega))
    go_wp2_with fail
    rw [HE.out]
    exact bodyPost_ret (by simp [results, Try.results12, go_sem, *]) rfl ⟨rfl, (HK.out.setCell (by simp; omega) _).setCell (by simp; omega) _⟩
  have t1_0 : decide (id < 0) = false := by simpa using t1
  by_cases t2 : no ≤ id
  · have d1 : decide (no ≤ id) = true := by simpa using t2
    have HE := Lib.hid (HNO.out (by omega))
    go_wp2_with fail
    rw [HE.out]
    exact bodyPost_ret (by simp [results, Try.results12, go_sem, *]) rfl ⟨rfl, (HK.out.setCell (by simp; omega) _).setCell (by simp; omega) _⟩
  have t2_0 : decide (no ≤ id) = false := by simpa using t2
  by_cases t3 : pos < 0
  · have d1 : decide (pos < 0) = true := by simpa using t3
    have HE := Lib.hid (HNO.out (by omega))
    go_wp2_with fail
    rw [HE.out]
    exact bodyPost_ret (by simp [results, Try.results12, go_sem, *]) rfl ⟨rfl, (HK.out.setCell (by simp; omega) _).setCell (by simp; omega) _⟩
  have t3_0 : decide (pos < 0) = false := by simpa using t3
  by_cases t4 : no ≤ pos
  · have d1 : decide (no ≤ pos) = true := by simpa using t4
    have HE := Lib.hid (HNO.out (by omega))
    go_wp2_with fail
    rw [HE.out]
    exact bodyPost_ret (by simp [results, Try.results12, go_sem, *]) rfl ⟨rfl, (HK.out.setCell (by simp; omega) _).setCell (by simp; omega) _⟩
  have t4_0 : decide (no ≤ pos) = false := by simpa using t4
  by_cases t5 : off < -(wi / 2)
  · have d1 : decide (off < -(wi / 2)) = true := by simpa using t5
    have HE := Lib.hid (HNO.out (by omega))
    go_wp2_with fail
    rw [HE.out]
    exact bodyPost_ret (by simp [results, Try.results12, go_sem, *]) rfl ⟨rfl, (HK.out.setCell (by simp; omega) _).setCell (by simp; omega) _⟩
  have t5_0 : decide (off < -(wi / 2)) = false := by simpa using t5
  by_cases t6 : wi / 2 < off
  · have d1 : decide (wi / 2 < off) = true := by simpa using t6
    have HE := Lib.hid (HNO.out (by omega))
    go_wp2_with fail
    rw [HE.out]
    exact bodyPost_ret (by simp [results, Try.results12, go_sem, *]) rfl ⟨rfl, (HK.out.setCell (by simp; omega) _).setCell (by simp; omega) _⟩
  have t6_0 : decide (wi / 2 < off) = false := by simpa using t6
  replace HR := Lib.hid (HR.out.trans (if_pos (by omega)))
  by_cases hip : id = pos
  case neg =>
    have d1 : (id != pos) = true := by rw [bne_iff_ne]; exact hip
    replace HR := Lib.hid (HR.out.trans (if_neg hip))
    clear hip
    go_wp2_with fail
    rw [HR.out]
    exact bodyPost_ret (by simp [results, Try.results12, go_sem, *]) rfl ⟨rfl, (HK.out.setCell (by simp; omega) _).setCell (by simp; omega) _⟩
  have d1 : (id != pos) = false := by rw [bne_eq_false_iff_eq]; exact hip
  replace HR := Lib.hid (HR.out.trans (if_pos hip))
  clear hip HNO
  go_wp2_with fail
  have w1' : IntKind.i64.wrap (off + ga) = off + ga := by simp [IntKind.wrap, IntKind.bits, IntKind.signed]; omega
  have w2' : IntKind.i64.wrap (st + (off + ga)) = st + (off + ga) := by simp [IntKind.wrap, IntKind.bits, IntKind.signed]; omega
  have w3' : IntKind.i64.wrap (st + (off + ga) - wi) = st + (off + ga) - wi := by simp [IntKind.wrap, IntKind.bits, IntKind.signed]; omega
  have w4' : IntKind.i64.wrap (st + (off + ga) + A) = st + (off + ga) + A := by simp [IntKind.wrap, IntKind.bits, IntKind.signed]; omega
  have w5' : IntKind.i64.wrap (st + (off + ga) + A + wi) = st + (off + ga) + A + wi := by simp [IntKind.wrap, IntKind.bits, IntKind.signed]; omega
  have c0 := HB1.out.later 0 _ rfl
  have c1 := HB1.out.later 1 _ rfl
  have c2 := HB1.out.later 2 _ rfl
  have c3 := HB1.out.later 3 _ rfl
  have c4 := HB1.out.later 4 _ rfl
  have c5 := HB1.out.later 5 _ rfl
  have c6 := HB1.out.later 6 _ rfl
  have c7 := HB1.out.later 7 _ rfl
  have e0 := HB2.out.later 0 _ rfl
  have e1 := HB2.out.later 1 _ rfl
  have e2 := HB2.out.later 2 _ rfl
  clear m0 m1 m2 m3 m4 m5 m6 m7 ml k0 k1 k2 kl z0 z1 zf zl
  refine wp_region_later (by kernel_rfl) (by kernel_rfl) ?_
  repeat (go_big_quiet_step (first | (go_at_call 56; with_reducible exact Later.calls _ (HAI.out _ (HM.out.keeps (HK.out.trans (Later.keeps _)))))))
  refine wpQuiet_nil ?_
  rintro _ ⟨q, rfl⟩
  obtain ⟨wq, hwq⟩ := q
  simp only
  replace HB1 := Lib.hid (HB1.out.keeps hwq)
  replace HB2 := Lib.hid (HB2.out.keeps hwq)
  replace HB3 := Lib.hid (HB3.out.keeps hwq)
  replace HK := Lib.hid (HK.out.trans hwq)
  clear c0 c1 c2 c3 c4 c5 c6 c7 e0 e1 e2 hwq
  have m0 := HB1.out.cell 0 _ rfl
  have m1 := HB1.out.cell 1 _ rfl
  have m2 := HB1.out.cell 2 _ rfl
  have m3 := HB1.out.cell 3 _ rfl
  have m4 := HB1.out.cell 4 _ rfl
  have m5 := HB1.out.cell 5 _ rfl
  have m6 := HB1.out.cell 6 _ rfl
  have m7 := HB1.out.cell 7 _ rfl
  have ml := HB1.out.lt
  have k0 := HB2.out.cell 0 _ rfl
  have k1 := HB2.out.cell 1 _ rfl
  have k2 := HB2.out.cell 2 _ rfl
  have kl := HB2.out.lt
  have z0 := HB3.out.cell 0 _ rfl
  have z1 := HB3.out.cell 1 _ rfl
  have zf := HB3.out.frozen
  have zl := HB3.out.lt
  go_wp2_with fail
  all_goals
    with_reducible refine (HAI.out _ (by exact HM.out.keeps HK.out)).mono ?_
    rintro e w9 ⟨rfl, hk9⟩
    replace HB3 := Lib.hid (HB3.out.keeps hk9)
    replace HK := Lib.hid (HK.out.trans hk9)
    clear hk9 z0 z1 zf zl
    clear m0 m1 m2 m3 m4 m5 m6 m7 ml k0 k1 k2 kl
    have z0 := HB3.out.cell 0 _ rfl
    have z1 := HB3.out.cell 1 _ rfl
    have zf := HB3.out.frozen
    have zl := HB3.out.lt
    go_wp2_with fail
  all_goals
    rw [HR.out]
    exact bodyPost_ret (by simp [results, Try.results12, go_sem, *] <;> omega) rfl ⟨rfl, (HK.out.setCell (by simp; omega) _).setCell (by simp; omega) _⟩
set_option maxRecDepth 100000 in
set_option maxHeartbeats 1000000 in
theorem ropen_any (m : RMedl) (c : RClk) (off id pos : Int) (w : World) (hm : m.In w) (hc : c.In w) :
    Calls Try.prog 13 #[m.val, c.val, .int .i64 off, .int .i64 id, .int .i64 pos] w fun e w' => e = .returned (openVal (openRes m c off id pos)) ∧ Keeps w w' := by
  have HM := Lib.hid hm
  have HC := Lib.hid hc
  clear hm hc
  have hair : 34 ≤ m.mair ∧ m.mair ≤ 4000 := mairI_le _ _
  have HCH := Lib.hid (rkcheck_any m c)
  have HAI := Lib.hid (rmair_any m)
  have HOK : Hid (clkErr m c = 0 → (0 ≤ m.window ∧ m.window ≤ 1048576 ∧ 0 ≤ m.gap ∧ m.gap ≤ 1048576 ∧ 0 ≤ c.start ∧ c.start ≤ 1099494850560)) := Lib.hid (fun h => by
    have h1 := medlOk_nums (clkErr_0 h).1
    have h2 := clkOk_nums (clkErr_0 h).2
    omega)
  have HR : Hid (openRes m c off id pos = if clkErr m c = 0 then (if openArgs m off id pos then (if id = pos then (max (c.start + off + m.gap - m.window) 0, c.start + off + m.gap + m.mair + m.window, 0) else (0, 0, 0)) else (0, 0, 2)) else (0, 0, clkErr m c)) := Lib.hid rfl
  obtain ⟨R, hR⟩ : ∃ R, R = openRes m c off id pos := ⟨_, rfl⟩
  rw [← hR] at HR ⊢
  clear hR
  obtain ⟨E, hE⟩ : ∃ E, E = clkErr m c := ⟨_, rfl⟩
  rw [← hE] at HR HCH HOK
  clear hE
  obtain ⟨A, hA⟩ : ∃ A, A = m.mair := ⟨_, rfl⟩
  rw [← hA] at HR HAI hair
  clear hA
  obtain ⟨ca, cc, hcv, hc1, hc2, hc3⟩ := HM.out.c.shape
  obtain ⟨da, dc, hdv, hd1, hd2, hd3⟩ := HC.out.d.shape
  clear hc3 hd3
  obtain ⟨no, sl, ga, wi, dr, de, cv, cs, ma, mn, mc, xs⟩ := m
  obtain ⟨st, so, dv, ds⟩ := c
  simp only at hcv hdv hc1 hd1 HOK HCH HAI
  simp only [openArgs] at HR
  subst hcv hdv
  have HK := Lib.hid ((((Keeps.refl w).alloc (.cells #[.int .i64 no, .int .i64 sl, .int .i64 ga, .int .i64 wi, .int .i64 dr, .int .i64 de, .slice ca cs.length cc, .slice ma mn mc] 25)).alloc (.cells #[.int .i64 st, .int .i64 so, .slice da ds.length dc] 28)).alloc (.cells #[.int .i64 0, .int .i64 0] 30))
  have HB1 := Lib.hid (((Box.new w 25 #[.int .i64 no, .int .i64 sl, .int .i64 ga, .int .i64 wi, .int .i64 dr, .int .i64 de, .slice ca cs.length cc, .slice ma mn mc]).next (.cells #[.int .i64 st, .int .i64 so, .slice da ds.length dc] 28)).next (.cells #[.int .i64 0, .int .i64 0] 30))
  have hb := (Box.new (w.alloc (.cells #[.int .i64 no, .int .i64 sl, .int .i64 ga, .int .i64 wi, .int .i64 dr, .int .i64 de, .slice ca cs.length cc, .slice ma mn mc] 25)) 28 #[.int .i64 st, .int .i64 so, .slice da ds.length dc]).next (.cells #[.int .i64 0, .int .i64 0] 30)
  rw [World.size_alloc] at hb
  have HB2 := Lib.hid hb
  clear hb
  have hb := Box.new ((w.alloc (.cells #[.int .i64 no, .int .i64 sl, .int .i64 ga, .int .i64 wi, .int .i64 dr, .int .i64 de, .slice ca cs.length cc, .slice ma mn mc] 25)).alloc (.cells #[.int .i64 st, .int .i64 so, .slice da ds.length dc] 28)) 30 #[.int .i64 0, .int .i64 0]
  rw [World.size_alloc, World.size_alloc] at hb
  have HB3 := Lib.hid hb
  clear hb
  show Calls Try.prog 13 #[.agg #[.int .i64 no, .int .i64 sl, .int .i64 ga, .int .i64 wi, .int .i64 dr, .int .i64 de, .slice ca cs.length cc, .slice ma mn mc], .agg #[.int .i64 st, .int .i64 so, .slice da ds.length dc], .int .i64 off, .int .i64 id, .int .i64 pos] w _
  go_enter Try.func13, Try.ntmps13
  go_wp2_with fail
  with_reducible refine (HCH.out _ (by exact HM.out.keeps HK.out) (by exact HC.out.keeps HK.out)).mono ?_
  rintro e w1 ⟨rfl, hk1⟩
  replace HK := Lib.hid (HK.out.trans hk1)
  replace HB1 := Lib.hid (HB1.out.keeps hk1)
  replace HB2 := Lib.hid (HB2.out.keeps hk1)
  replace HB3 := Lib.hid (HB3.out.keeps hk1)
  have z0 := HB3.out.cell 0 _ rfl
  have z1 := HB3.out.cell 1 _ rfl
  have zf := HB3.out.frozen
  have zl := HB3.out.lt
  clear hk1 HCH
  have m0 := HB1.out.cell 0 _ rfl
  have m1 := HB1.out.cell 1 _ rfl
  have m2 := HB1.out.cell 2 _ rfl
  have m3 := HB1.out.cell 3 _ rfl
  have m4 := HB1.out.cell 4 _ rfl
  have m5 := HB1.out.cell 5 _ rfl
  have m6 := HB1.out.cell 6 _ rfl
  have m7 := HB1.out.cell 7 _ rfl
  have ml := HB1.out.lt
  have k0 := HB2.out.cell 0 _ rfl
  have k1 := HB2.out.cell 1 _ rfl
  have k2 := HB2.out.cell 2 _ rfl
  have kl := HB2.out.lt
  by_cases hE : E = 0
  case neg =>
    have d0 : (E != 0) = true := by rw [bne_iff_ne]; exact hE
    have HRR : Hid (R = (0, 0, E)) := Lib.hid (by rw [HR.out, if_neg hE])
    clear HR hE
    go_wp2_with fail
    rw [HRR.out]
    exact bodyPost_ret (by simp [results, Try.results13, go_sem, *]) rfl ⟨rfl, (HK.out.setCell (by simp; omega) _).setCell (by simp; omega) _⟩
  have hb := HOK.out hE
  have d0 : (E != 0) = false := by rw [bne_eq_false_iff_eq]; exact hE
  replace HR := Lib.hid (HR.out.trans (if_pos hE))
  clear hE HOK
  obtain ⟨b1, b2, b3, b4, b5, b6⟩ := hb
  have HNO : Hid (¬ (0 ≤ id ∧ id < no ∧ 0 ≤ pos ∧ pos < no ∧ -(wi / 2) ≤ off ∧ off ≤ wi / 2) → R = (0, 0, 2)) := Lib.hid (fun h => by rw [HR.out, if_neg h])
  by_cases t1 : id < 0
  · have d1 : decide (id < 0) = true := by simpa using t1
    have HE := Lib.hid (HNO.out (by omega))
    go_wp2_with fail
    rw [HE.out]
    exact bodyPost_ret (by simp [results, Try.results13, go_sem, *]) rfl ⟨rfl, (HK.out.setCell (by simp; omega) _).setCell (by simp; omega) _⟩
  have t1_0 : decide (id < 0) = false := by simpa using t1
  by_cases t2 : no ≤ id
  · have d1 : decide (no ≤ id) = true := by simpa using t2
    have HE := Lib.hid (HNO.out (by omega))
    go_wp2_with fail
    rw [HE.out]
    exact bodyPost_ret (by simp [results, Try.results13, go_sem, *]) rfl ⟨rfl, (HK.out.setCell (by simp; omega) _).setCell (by simp; omega) _⟩
  have t2_0 : decide (no ≤ id) = false := by simpa using t2
  by_cases t3 : pos < 0
  · have d1 : decide (pos < 0) = true := by simpa using t3
    have HE := Lib.hid (HNO.out (by omega))
    go_wp2_with fail
    rw [HE.out]
    exact bodyPost_ret (by simp [results, Try.results13, go_sem, *]) rfl ⟨rfl, (HK.out.setCell (by simp; omega) _).setCell (by simp; omega) _⟩
  have t3_0 : decide (pos < 0) = false := by simpa using t3
  by_cases t4 : no ≤ pos
  · have d1 : decide (no ≤ pos) = true := by simpa using t4
    have HE := Lib.hid (HNO.out (by omega))
    go_wp2_with fail
    rw [HE.out]
    exact bodyPost_ret (by simp [results, Try.results13, go_sem, *]) rfl ⟨rfl, (HK.out.setCell (by simp; omega) _).setCell (by simp; omega) _⟩
  have t4_0 : decide (no ≤ pos) = false := by simpa using t4
  by_cases t5 : off < -(wi / 2)
  · have d1 : decide (off < -(wi / 2)) = true := by simpa using t5
    have HE := Lib.hid (HNO.out (by omega))
    go_wp2_with fail
    rw [HE.out]
    exact bodyPost_ret (by simp [results, Try.results13, go_sem, *]) rfl ⟨rfl, (HK.out.setCell (by simp; omega) _).setCell (by simp; omega) _⟩
  have t5_0 : decide (off < -(wi / 2)) = false := by simpa using t5
  by_cases t6 : wi / 2 < off
  · have d1 : decide (wi / 2 < off) = true := by simpa using t6
    have HE := Lib.hid (HNO.out (by omega))
    go_wp2_with fail
    rw [HE.out]
    exact bodyPost_ret (by simp [results, Try.results13, go_sem, *]) rfl ⟨rfl, (HK.out.setCell (by simp; omega) _).setCell (by simp; omega) _⟩
  have t6_0 : decide (wi / 2 < off) = false := by simpa using t6
  replace HR := Lib.hid (HR.out.trans (if_pos (by omega)))
  by_cases hip : id = pos
  case neg =>
    have d1 : (id != pos) = true := by rw [bne_iff_ne]; exact hip
    replace HR := Lib.hid (HR.out.trans (if_neg hip))
    clear hip
    go_wp2_with fail
    rw [HR.out]
    exact bodyPost_ret (by simp [results, Try.results13, go_sem, *]) rfl ⟨rfl, (HK.out.setCell (by simp; omega) _).setCell (by simp; omega) _⟩
  have d1 : (id != pos) = false := by rw [bne_eq_false_iff_eq]; exact hip
  replace HR := Lib.hid (HR.out.trans (if_pos hip))
  clear hip HNO
  go_wp2_with fail
  have w1' : IntKind.i64.wrap (off + ga) = off + ga := by simp [IntKind.wrap, IntKind.bits, IntKind.signed]; omega
  have w2' : IntKind.i64.wrap (st + off + ga) = st + off + ga := by simp [IntKind.wrap, IntKind.bits, IntKind.signed]; omega
  have w3' : IntKind.i64.wrap (st + off + ga - wi) = st + off + ga - wi := by simp [IntKind.wrap, IntKind.bits, IntKind.signed]; omega
  have w4' : IntKind.i64.wrap (st + off + ga + A) = st + off + ga + A := by simp [IntKind.wrap, IntKind.bits, IntKind.signed]; omega
  have w5' : IntKind.i64.wrap (st + off + ga + A + wi) = st + off + ga + A + wi := by simp [IntKind.wrap, IntKind.bits, IntKind.signed]; omega
  have c0 := HB1.out.later 0 _ rfl
  have c1 := HB1.out.later 1 _ rfl
  have c2 := HB1.out.later 2 _ rfl
  have c3 := HB1.out.later 3 _ rfl
  have c4 := HB1.out.later 4 _ rfl
  have c5 := HB1.out.later 5 _ rfl
  have c6 := HB1.out.later 6 _ rfl
  have c7 := HB1.out.later 7 _ rfl
  have e0 := HB2.out.later 0 _ rfl
  have e1 := HB2.out.later 1 _ rfl
  have e2 := HB2.out.later 2 _ rfl
  clear m0 m1 m2 m3 m4 m5 m6 m7 ml k0 k1 k2 kl z0 z1 zf zl
  refine wp_region_quiet_tail (fun w' => ∃ k : Later w1, w' = k.w) 13 (by kernel_rfl) (by kernel_rfl) ⟨⟨w1.drew, (Keeps.refl w1).drew⟩, rfl⟩ ?_; dsimp only [List.take, List.drop]
  repeat (go_big_quiet_step (first | (go_at_call 46; with_reducible exact Later.calls _ (HAI.out _ (HM.out.keeps (HK.out.trans (Later.keeps _)))))))
  refine wpQuiet_nil ?_
  rintro _ ⟨q, rfl⟩
  obtain ⟨wq, hwq⟩ := q
  simp only
  replace HB1 := Lib.hid (HB1.out.keeps hwq)
  replace HB2 := Lib.hid (HB2.out.keeps hwq)
  replace HB3 := Lib.hid (HB3.out.keeps hwq)
  replace HK := Lib.hid (HK.out.trans hwq)
  clear c0 c1 c2 c3 c4 c5 c6 c7 e0 e1 e2 hwq
  have m0 := HB1.out.cell 0 _ rfl
  have m1 := HB1.out.cell 1 _ rfl
  have m2 := HB1.out.cell 2 _ rfl
  have m3 := HB1.out.cell 3 _ rfl
  have m4 := HB1.out.cell 4 _ rfl
  have m5 := HB1.out.cell 5 _ rfl
  have m6 := HB1.out.cell 6 _ rfl
  have m7 := HB1.out.cell 7 _ rfl
  have ml := HB1.out.lt
  have k0 := HB2.out.cell 0 _ rfl
  have k1 := HB2.out.cell 1 _ rfl
  have k2 := HB2.out.cell 2 _ rfl
  have kl := HB2.out.lt
  have z0 := HB3.out.cell 0 _ rfl
  have z1 := HB3.out.cell 1 _ rfl
  have zf := HB3.out.frozen
  have zl := HB3.out.lt
  go_wp2_with fail
  all_goals
    rw [HR.out]
    exact bodyPost_ret (by simp [results, Try.results13, go_sem, *] <;> omega) rfl ⟨rfl, (HK.out.setCell (by simp; omega) _).setCell (by simp; omega) _⟩
end Go.Proofs.Ytcophhdlcjemeaa
