/- The walk of GuardianOwn. -/
import Derived.Test.YtcophhdlcjemeaaT5
import Derived.Test.YtcophhdlcjemeaaT6
import Derived.Test.YtcophhdlcjemeaaLater
namespace Go.Proofs.Ytcophhdlcjemeaa
open Go.RowKit Go.Shelf
set_option linter.unusedVariables false
set_option linter.unusedSimpArgs false
/-- what lies in the open span -/
theorem own_plain (m : RMedl) (c : RClk) (off id A : Int) (h0 : (openRes m c off id id).2.2 = 0) (hA : A ≤ m.mair) (hA0 : 0 < A) :
    clkErr m c = 0 ∧ 0 ≤ c.start + m.gap ∧ c.start + m.gap + A ≤ 1099511627776 ∧ spanOk (openRes m c off id id).1 (openRes m c off id id).2.1 = true ∧ spanMeets (c.start + m.gap) (c.start + m.gap + A) (openRes m c off id id).1 (openRes m c off id id).2.1 = true ∧ spanIn (c.start + m.gap) (c.start + m.gap + A) (openRes m c off id id).1 (openRes m c off id id).2.1 = true := by
  unfold openRes at h0 ⊢
  by_cases hc : clkErr m c = 0
  · rw [if_pos hc] at h0 ⊢
    by_cases ho : openArgs m off id id
    · rw [if_pos ho, if_pos rfl] at h0 ⊢
      simp only
      have h1 := medlOk_nums (clkErr_0 hc).1
      have h2 := clkOk_nums (clkErr_0 hc).2
      have hair : 34 ≤ m.mair ∧ m.mair ≤ 4000 := mairI_le _ _
      unfold openArgs at ho
      unfold spanMeets spanIn
      simp only [Bool.and_eq_true, decide_eq_true_eq, spanOk_iff]
      refine ⟨hc, ?_⟩
      have hmax : ∀ a : Int, max a 0 = if a ≤ 0 then 0 else a := by intro a; omega
      rw [hmax]
      split <;> omega
    · rw [if_neg ho] at h0; simp at h0
  · rw [if_neg hc] at h0; exact absurd h0 hc
set_option maxRecDepth 100000 in
set_option maxHeartbeats 2000000 in
theorem guardianOwn_any (m : RMedl) (c : RClk) (off id level : Int) (x : RB) (w : World) (hm : m.In w) (hc : c.In w) (hx : x.In w) :
    Calls Try.prog 8 #[m.val, c.val, .int .i64 off, .int .i64 id, .int .i64 level, x.val] w fun e w' => e = .returned (.bool true) ∧ Keeps w w' := by
  have HM := Lib.hid hm
  have HC := Lib.hid hc
  have HX := Lib.hid hx
  clear hm hc hx
  have H1 := Lib.hid (open_any m c off id id)
  have H2 := Lib.hid (rsend_any m c)
  have H3 := Lib.hid (rmair_any m)
  have HP := Lib.hid (fun A => own_plain m c off id A)
  have hair : 34 ≤ m.mair ∧ m.mair ≤ 4000 := mairI_le _ _
  obtain ⟨AI, hAI⟩ : ∃ A, A = m.mair := ⟨_, rfl⟩
  obtain ⟨⟨o1, o2, o3⟩, hR⟩ : ∃ R, R = openRes m c off id id := ⟨_, rfl⟩
  rw [← hR] at H1 HP
  rw [← hAI] at H3 HP hair
  clear hR hAI
  obtain ⟨CE, hCE⟩ : ∃ E, E = clkErr m c := ⟨_, rfl⟩
  rw [← hCE] at HP H2
  clear hCE
  obtain ⟨ca, cc, hcv, hc1, hc2, hc3⟩ := HM.out.c.shape
  obtain ⟨da, dc, hdv, hd1, hd2, hd3⟩ := HC.out.d.shape
  clear hc3 hd3
  obtain ⟨no, sl, ga, wi, dr, de, cv, cs, ma, mn, mc, xs⟩ := m
  obtain ⟨st, so, dv, ds⟩ := c
  obtain ⟨n, a, len, cap, l⟩ := x
  simp only at hcv hdv hc1 hd1 HP H2 HX
  subst hcv hdv
  have HK := Lib.hid ((((Keeps.refl w).alloc (.cells #[.int .i64 no, .int .i64 sl, .int .i64 ga, .int .i64 wi, .int .i64 dr, .int .i64 de, .slice ca cs.length cc, .slice ma mn mc] 25)).alloc (.cells #[.int .i64 st, .int .i64 so, .slice da ds.length dc] 28)).alloc (.cells #[.int .i64 n, .slice a len cap] 69))
  have HM1 := Lib.hid (((Box.new w 25 #[.int .i64 no, .int .i64 sl, .int .i64 ga, .int .i64 wi, .int .i64 dr, .int .i64 de, .slice ca cs.length cc, .slice ma mn mc]).next (.cells #[.int .i64 st, .int .i64 so, .slice da ds.length dc] 28)).next (.cells #[.int .i64 n, .slice a len cap] 69))
  have hb := (Box.new (w.alloc (.cells #[.int .i64 no, .int .i64 sl, .int .i64 ga, .int .i64 wi, .int .i64 dr, .int .i64 de, .slice ca cs.length cc, .slice ma mn mc] 25)) 28 #[.int .i64 st, .int .i64 so, .slice da ds.length dc]).next (.cells #[.int .i64 n, .slice a len cap] 69)
  rw [World.size_alloc] at hb
  have HC1 := Lib.hid hb
  clear hb
  have hb := (Box.new ((w.alloc (.cells #[.int .i64 no, .int .i64 sl, .int .i64 ga, .int .i64 wi, .int .i64 dr, .int .i64 de, .slice ca cs.length cc, .slice ma mn mc] 25)).alloc (.cells #[.int .i64 st, .int .i64 so, .slice da ds.length dc] 28)) 69 #[.int .i64 n, .slice a len cap])
  rw [World.size_alloc, World.size_alloc] at hb
  have HX1 := Lib.hid hb
  clear hb
  show Calls Try.prog 8 #[.agg #[.int .i64 no, .int .i64 sl, .int .i64 ga, .int .i64 wi, .int .i64 dr, .int .i64 de, .slice ca cs.length cc, .slice ma mn mc], .agg #[.int .i64 st, .int .i64 so, .slice da ds.length dc], .int .i64 off, .int .i64 id, .int .i64 level, .agg #[.int .i64 n, .slice a len cap]] w _
  go_enter Try.func8, Try.ntmps8
  go_wp2_with fail
  with_reducible refine (H1.out _ (by exact HM.out.keeps HK.out) (by exact HC.out.keeps HK.out)).mono ?_
  rintro e w1 ⟨rfl, hk1⟩
  replace HM1 := Lib.hid (HM1.out.keeps hk1)
  replace HC1 := Lib.hid (HC1.out.keeps hk1)
  replace HX1 := Lib.hid (HX1.out.keeps hk1)
  replace HK := Lib.hid (HK.out.trans hk1)
  clear hk1
  have m0 := HM1.out.cell 0 _ rfl
  have m1 := HM1.out.cell 1 _ rfl
  have m2 := HM1.out.cell 2 _ rfl
  have m3 := HM1.out.cell 3 _ rfl
  have m4 := HM1.out.cell 4 _ rfl
  have m5 := HM1.out.cell 5 _ rfl
  have m6 := HM1.out.cell 6 _ rfl
  have m7 := HM1.out.cell 7 _ rfl
  have ml := HM1.out.lt
  have k0 := HC1.out.cell 0 _ rfl
  have k1 := HC1.out.cell 1 _ rfl
  have k2 := HC1.out.cell 2 _ rfl
  have kl := HC1.out.lt
  have x0 := HX1.out.cell 0 _ rfl
  have x1 := HX1.out.cell 1 _ rfl
  have xl := HX1.out.lt
  go_wp2_with fail
  have HO1 := Lib.hid (Box.new w1 30 #[.int .i64 o1, .int .i64 o2])
  replace HM1 := Lib.hid (HM1.out.next (.cells #[.int .i64 o1, .int .i64 o2] 30))
  replace HC1 := Lib.hid (HC1.out.next (.cells #[.int .i64 o1, .int .i64 o2] 30))
  replace HX1 := Lib.hid (HX1.out.next (.cells #[.int .i64 o1, .int .i64 o2] 30))
  replace HK := Lib.hid (HK.out.alloc (.cells #[.int .i64 o1, .int .i64 o2] 30))
  with_reducible refine (H2.out _ (by exact HM.out.keeps HK.out) (by exact HC.out.keeps HK.out)).mono ?_
  rintro e w2 ⟨⟨at_, e2, rfl, rfl, hat⟩, hk1⟩
  replace HM1 := Lib.hid (HM1.out.keeps hk1)
  replace HC1 := Lib.hid (HC1.out.keeps hk1)
  replace HX1 := Lib.hid (HX1.out.keeps hk1)
  replace HO1 := Lib.hid (HO1.out.keeps hk1)
  replace HK := Lib.hid (HK.out.trans hk1)
  have HAT := Lib.hid hat
  clear hk1 hat m0 m1 m2 m3 m4 m5 m6 m7 ml k0 k1 k2 kl x0 x1 xl
  have m0 := HM1.out.cell 0 _ rfl
  have m1 := HM1.out.cell 1 _ rfl
  have m2 := HM1.out.cell 2 _ rfl
  have m3 := HM1.out.cell 3 _ rfl
  have m4 := HM1.out.cell 4 _ rfl
  have m5 := HM1.out.cell 5 _ rfl
  have m6 := HM1.out.cell 6 _ rfl
  have m7 := HM1.out.cell 7 _ rfl
  have ml := HM1.out.lt
  have k0 := HC1.out.cell 0 _ rfl
  have k1 := HC1.out.cell 1 _ rfl
  have k2 := HC1.out.cell 2 _ rfl
  have kl := HC1.out.lt
  have x0 := HX1.out.cell 0 _ rfl
  have x1 := HX1.out.cell 1 _ rfl
  have xl := HX1.out.lt
  have ob0 := HO1.out.cell 0 _ rfl
  have ob1 := HO1.out.cell 1 _ rfl
  have ol := HO1.out.lt
  go_wp2_with fail
  with_reducible refine (begun20_any _).mono ?_
  rintro e w1 ⟨rfl, hk1⟩
  replace HM1 := Lib.hid (HM1.out.keeps hk1)
  replace HC1 := Lib.hid (HC1.out.keeps hk1)
  replace HX1 := Lib.hid (HX1.out.keeps hk1)
  replace HO1 := Lib.hid (HO1.out.keeps hk1)
  replace HK := Lib.hid (HK.out.trans hk1)
  clear hk1
  clear m0 m1 m2 m3 m4 m5 m6 m7 ml k0 k1 k2 kl x0 x1 xl ob0 ob1 ol
  have m0 := HM1.out.cell 0 _ rfl
  have m1 := HM1.out.cell 1 _ rfl
  have m2 := HM1.out.cell 2 _ rfl
  have m3 := HM1.out.cell 3 _ rfl
  have m4 := HM1.out.cell 4 _ rfl
  have m5 := HM1.out.cell 5 _ rfl
  have m6 := HM1.out.cell 6 _ rfl
  have m7 := HM1.out.cell 7 _ rfl
  have ml := HM1.out.lt
  have k0 := HC1.out.cell 0 _ rfl
  have k1 := HC1.out.cell 1 _ rfl
  have k2 := HC1.out.cell 2 _ rfl
  have kl := HC1.out.lt
  have x0 := HX1.out.cell 0 _ rfl
  have x1 := HX1.out.cell 1 _ rfl
  have xl := HX1.out.lt
  have ob0 := HO1.out.cell 0 _ rfl
  have ob1 := HO1.out.cell 1 _ rfl
  have ol := HO1.out.lt
  by_cases h3 : ¬ o3 = 0
  · have d1 : (o3 != 0) = true := by rw [bne_iff_ne]; exact h3
    go_wp2_with fail
    with_reducible refine (begun20_any _).mono ?_
    rintro e w1 ⟨rfl, hk1⟩
    replace HK := Lib.hid (HK.out.trans hk1)
    clear hk1
    go_wp2_with fail
    go_ret
    exact ⟨rfl, HK.out⟩
  replace h3 := Decidable.of_not_not h3
  subst h3
  have hce : e2 = 0 := (HP.out AI rfl (Int.le_refl _) (by omega)).1
  subst hce
  have ha := HAT.out rfl
  have HPP := Lib.hid (fun A => HP.out A rfl)
  subst ha
  go_wp2_with fail
  with_reducible refine (rmake_any id (st + ga) level ⟨n, a, len, cap, l⟩ _ (by exact HX.out.keeps HK.out)).mono ?_
  rintro e w3 ⟨s, g, rfl, hmr, hk1⟩
  have hw3 := hk1.size
  have HMR := Lib.hid hmr
  replace HM1 := Lib.hid (HM1.out.keeps hk1)
  replace HC1 := Lib.hid (HC1.out.keeps hk1)
  replace HX1 := Lib.hid (HX1.out.keeps hk1)
  replace HO1 := Lib.hid (HO1.out.keeps hk1)
  replace HK := Lib.hid (HK.out.trans hk1)
  clear hk1 hmr m0 m1 m2 m3 m4 m5 m6 m7 ml k0 k1 k2 kl x0 x1 xl ob0 ob1 ol
  have m0 := HM1.out.cell 0 _ rfl
  have m1 := HM1.out.cell 1 _ rfl
  have m2 := HM1.out.cell 2 _ rfl
  have m3 := HM1.out.cell 3 _ rfl
  have m4 := HM1.out.cell 4 _ rfl
  have m5 := HM1.out.cell 5 _ rfl
  have m6 := HM1.out.cell 6 _ rfl
  have m7 := HM1.out.cell 7 _ rfl
  have ml := HM1.out.lt
  have k0 := HC1.out.cell 0 _ rfl
  have k1 := HC1.out.cell 1 _ rfl
  have k2 := HC1.out.cell 2 _ rfl
  have kl := HC1.out.lt
  have x0 := HX1.out.cell 0 _ rfl
  have x1 := HX1.out.cell 1 _ rfl
  have xl := HX1.out.lt
  have ob0 := HO1.out.cell 0 _ rfl
  have ob1 := HO1.out.cell 1 _ rfl
  have ol := HO1.out.lt
  obtain ⟨sfr, sf, st_, slv, sn, sa, slen, scap, sll⟩ := s
  have HS1 := Lib.hid (Box.new w3 73 #[.int .i64 sfr, .int .i64 sf, .int .i64 st_, .int .i64 slv, .int .i64 sn, .slice sa slen scap])
  have HM2 := Lib.hid (HM1.out.next (.cells #[.int .i64 sfr, .int .i64 sf, .int .i64 st_, .int .i64 slv, .int .i64 sn, .slice sa slen scap] 73))
  have HO2 := Lib.hid (HO1.out.next (.cells #[.int .i64 sfr, .int .i64 sf, .int .i64 st_, .int .i64 slv, .int .i64 sn, .slice sa slen scap] 73))
  have HK2 := Lib.hid (HK.out.alloc (.cells #[.int .i64 sfr, .int .i64 sf, .int .i64 st_, .int .i64 slv, .int .i64 sn, .slice sa slen scap] 73))
  rcases HMR.out.either with rfl | ⟨rfl, rfl, rfl, hst, rfl, rfl, rfl, hwh, hsi, hsf⟩
  · go_wp2_with fail
    clear m0 m1 m2 m3 m4 m5 m6 m7 ml k0 k1 k2 kl x0 x1 xl ob0 ob1 ol
    have l0 := HS1.out.later 0 _ rfl
    have l1 := HS1.out.later 1 _ rfl
    have l2 := HS1.out.later 2 _ rfl
    have l3 := HS1.out.later 3 _ rfl
    have l4 := HS1.out.later 4 _ rfl
    have l5 := HS1.out.later 5 _ rfl
    have n0 := HM2.out.later 0 _ rfl
    have n1 := HM2.out.later 1 _ rfl
    have n2 := HM2.out.later 2 _ rfl
    have n3 := HM2.out.later 3 _ rfl
    have n4 := HM2.out.later 4 _ rfl
    have n5 := HM2.out.later 5 _ rfl
    have n6 := HM2.out.later 6 _ rfl
    have n7 := HM2.out.later 7 _ rfl
    refine wp_region_later (by kernel_rfl) (by kernel_rfl) ?_
    repeat (go_big_quiet_step (first
      | (go_at_call 46; exact Later.calls _ (H3.out _ (HM.out.keeps (HK2.out.trans (Later.keeps _)))))))
    refine wpQuiet_nil ?_
    rintro _ ⟨k, rfl⟩
    replace HK2 := Lib.hid (HK2.out.trans k.keeps)
    clear l0 l1 l2 l3 l4 l5 n0 n1 n2 n3 n4 n5 n6 n7
    go_wp2_with fail
    go_ret
    exact ⟨rfl, HK2.out⟩
  have hA0 := airI_le sn
  have hAp : 0 < airI sn := by
    have hwn := hwh
    unfold wholeOk at hwn
    simp only [Bool.and_eq_true, decide_eq_true_eq] at hwn
    unfold airI
    split <;> omega
  have hlen := whole_len hwh hsi
  simp only at hlen
  obtain ⟨A, hA⟩ : ∃ A, A = airI sn := ⟨_, rfl⟩
  rw [← hA] at hst hA0 hAp
  subst hst
  clear hA HMR
  have HSI := Lib.hid (hsi.keeps ((Keeps.refl w3).alloc (.cells #[.int .i64 sfr, .int .i64 (st + ga), .int .i64 (st + ga + A), .int .i64 slv, .int .i64 sn, .slice sa slen scap] 73)))
  have hsok : sigOk ⟨sfr, st + ga, st + ga + A, slv, ⟨sn, sa, slen, scap, sll⟩⟩ = true := by
    unfold wholeOk at hwh
    simp only [Bool.and_eq_true] at hwh
    exact hwh.1
  have HSOK := Lib.hid hsok
  have HSF := Lib.hid hsf
  clear hsok hwh hsi hsf
  have hw1 : IntKind.i64.wrap (st + ga + A - (st + ga)) = A := by
    rw [show st + ga + A - (st + ga) = A by omega]
    simp [IntKind.wrap, IntKind.bits, IntKind.signed]; omega
  have hw2 : IntKind.i64.wrap AI = AI := by simp [IntKind.wrap, IntKind.bits, IntKind.signed]; omega
  go_wp2_with fail
  clear m0 m1 m2 m3 m4 m5 m6 m7 ml k0 k1 k2 kl x0 x1 xl ob0 ob1 ol
  by_cases hgt : AI < A
  · have d1 : decide (AI < A) = true := decide_eq_true hgt
    have l0 := HS1.out.later 0 _ rfl
    have l1 := HS1.out.later 1 _ rfl
    have l2 := HS1.out.later 2 _ rfl
    have l3 := HS1.out.later 3 _ rfl
    have l4 := HS1.out.later 4 _ rfl
    have l5 := HS1.out.later 5 _ rfl
    have n0 := HM2.out.later 0 _ rfl
    have n1 := HM2.out.later 1 _ rfl
    have n2 := HM2.out.later 2 _ rfl
    have n3 := HM2.out.later 3 _ rfl
    have n4 := HM2.out.later 4 _ rfl
    have n5 := HM2.out.later 5 _ rfl
    have n6 := HM2.out.later 6 _ rfl
    have n7 := HM2.out.later 7 _ rfl
    refine wp_region_later (by kernel_rfl) (by kernel_rfl) ?_
    repeat (go_big_quiet_step (first
      | (go_at_call 46; exact Later.calls _ (H3.out _ (HM.out.keeps (HK2.out.trans (Later.keeps _)))))))
    refine wpQuiet_nil ?_
    rintro _ ⟨k, rfl⟩
    replace HK2 := Lib.hid (HK2.out.trans k.keeps)
    clear l0 l1 l2 l3 l4 l5 n0 n1 n2 n3 n4 n5 n6 n7
    go_wp2_with fail
    go_ret
    exact ⟨rfl, HK2.out⟩
  · have d1 : decide (AI < A) = false := decide_eq_false hgt
    have HPL := Lib.hid (HPP.out A (by omega) hAp)
    have l0 := HS1.out.later 0 _ rfl
    have l1 := HS1.out.later 1 _ rfl
    have l2 := HS1.out.later 2 _ rfl
    have l3 := HS1.out.later 3 _ rfl
    have l4 := HS1.out.later 4 _ rfl
    have l5 := HS1.out.later 5 _ rfl
    have n0 := HM2.out.later 0 _ rfl
    have n1 := HM2.out.later 1 _ rfl
    have n2 := HM2.out.later 2 _ rfl
    have n3 := HM2.out.later 3 _ rfl
    have n4 := HM2.out.later 4 _ rfl
    have n5 := HM2.out.later 5 _ rfl
    have n6 := HM2.out.later 6 _ rfl
    have n7 := HM2.out.later 7 _ rfl
    refine wp_region_later (by kernel_rfl) (by kernel_rfl) ?_
    repeat (go_big_quiet_step (first
      | (go_at_call 46; exact Later.calls _ (H3.out _ (HM.out.keeps (HK2.out.trans (Later.keeps _)))))))
    refine wpQuiet_nil ?_
    rintro _ ⟨k, rfl⟩
    have HS3 := Lib.hid (HS1.out.keeps k.keeps)
    have HO3 := Lib.hid (HO2.out.keeps k.keeps)
    replace HK2 := Lib.hid (HK2.out.trans k.keeps)
    replace HSI := Lib.hid (HSI.out.keeps k.keeps)
    clear l0 l1 l2 l3 l4 l5 n0 n1 n2 n3 n4 n5 n6 n7
    have ob0 := HO3.out.cell 0 _ rfl
    have ob1 := HO3.out.cell 1 _ rfl
    have ol := HO3.out.lt
    have s0 := HS3.out.cell 0 _ rfl
    have s1 := HS3.out.cell 1 _ rfl
    have s2 := HS3.out.cell 2 _ rfl
    have s3 := HS3.out.cell 3 _ rfl
    have s4 := HS3.out.cell 4 _ rfl
    have s5 := HS3.out.cell 5 _ rfl
    have sl' := HS3.out.lt
    go_wp2_with fail
    with_reducible refine (pass_in o1 o2 ⟨sfr, st + ga, st + ga + A, slv, ⟨sn, sa, slen, scap, sll⟩⟩ _ (by exact HSI.out) HSOK.out (by exact hlen.2.2.2) (by exact HPL.out.2.2.2.1) (by exact HPL.out.2.2.2.2.1) (by exact HPL.out.2.2.2.2.2)).mono ?_
    rintro e w5 ⟨⟨pa, pcap, rfl, hpi⟩, hk5⟩
    have HPI := Lib.hid hpi
    replace HS3 := Lib.hid (HS3.out.keeps hk5)
    replace HSI := Lib.hid (HSI.out.keeps hk5)
    replace HK2 := Lib.hid (HK2.out.trans hk5)
    clear hk5 hpi
    clear s0 s1 s2 s3 s4 s5 sl' ob0 ob1 ol
    have s0 := HS3.out.cell 0 _ rfl
    have s1 := HS3.out.cell 1 _ rfl
    have s2 := HS3.out.cell 2 _ rfl
    have s3 := HS3.out.cell 3 _ rfl
    have s4 := HS3.out.cell 4 _ rfl
    have s5 := HS3.out.cell 5 _ rfl
    have sl' := HS3.out.lt
    go_wp2_with fail
    with_reducible refine (rsigsame_any ⟨sfr, st + ga, st + ga + A, slv, ⟨sn, pa, slen, pcap, sll⟩⟩ ⟨sfr, st + ga, st + ga + A, slv, ⟨sn, sa, slen, scap, sll⟩⟩ _ (by first | exact HPI.out | exact HPI.out.keeps ((Keeps.refl _).alloc _)) (by first | exact HSI.out | exact HSI.out.keeps ((Keeps.refl _).alloc _))).mono ?_
    have hsm : sigSame ⟨sfr, st + ga, st + ga + A, slv, ⟨sn, pa, slen, pcap, sll⟩⟩ ⟨sfr, st + ga, st + ga + A, slv, ⟨sn, sa, slen, scap, sll⟩⟩ = true := by simp [sigSame, sameRes, spanSame_self]
    rw [hsm]
    rintro e w6 ⟨rfl, hk6⟩
    replace HK2 := Lib.hid (Keeps.trans (by first | exact HK2.out | exact HK2.out.alloc _) hk6)
    clear hk6 hsm
    go_wp2_with fail
    go_ret
    exact ⟨rfl, HK2.out⟩
end Go.Proofs.Ytcophhdlcjemeaa
