/- The walks of the reference of layer 7, 3: Check. -/
import Derived.Test.YtmjodcackmjllaaM9
import Derived.Test.YtmjodcackmjllaaM8
namespace Go.Proofs.Ytmjodcackmjllaa
open Go.RowKit
set_option linter.unusedVariables false
set_option linter.unusedSimpArgs false
set_option maxRecDepth 100000 in
set_option maxHeartbeats 2000000 in
theorem rmcheck_any (m : RMedl) (w : World) (hm : m.In w) :
    Calls Try.prog 29 #[m.val] w fun e w' => e = .returned (.int .i64 (medlErr m)) ∧ Keeps w w' := by
  have HM := Lib.hid hm
  clear hm
  have hair : 34 ≤ m.mair ∧ m.mair ≤ 4000 := mairI_le _ _
  have HOK : Hid (countsOk m = true ∧ modesOk m = true ∧ numsOk m = true → medlErr m = 0) := Lib.hid (fun h => medlErr_yes ((medlOk_iff m).2 h))
  have HNO : Hid (¬ (countsOk m = true ∧ modesOk m = true ∧ numsOk m = true) → medlErr m = 70) := Lib.hid (fun h => medlErr_no h)
  have HC0 := Lib.hid (countsOk_iff m)
  have HN0 := Lib.hid (numsOk_iff m)
  have HCA := Lib.hid (rmair_any m)
  have HMO := Lib.hid (rmode_any m)
  have HMY := Lib.hid (modesOk_yes m)
  have HMN := Lib.hid (modesOk_no m)
  obtain ⟨E, hE⟩ : ∃ E, E = medlErr m := ⟨_, rfl⟩
  rw [← hE] at HOK HNO ⊢
  clear hE
  obtain ⟨N, hN⟩ : ∃ N, N = numsOk m := ⟨_, rfl⟩
  rw [← hN] at HOK HNO HN0
  clear hN
  obtain ⟨D, hD⟩ : ∃ D, D = modesOk m := ⟨_, rfl⟩
  rw [← hD] at HOK HNO HMY HMN
  clear hD
  obtain ⟨C, hC⟩ : ∃ C, C = countsOk m := ⟨_, rfl⟩
  rw [← hC] at HOK HNO HC0 HMO
  clear hC
  obtain ⟨A, hA⟩ : ∃ A, A = m.mair := ⟨_, rfl⟩
  rw [← hA] at HCA hair HN0
  clear hA
  obtain ⟨ca, cc, hcv, hc1, hc2, hc3⟩ := HM.out.c.shape
  clear hc3
  have HX := Lib.hid HM.out.m
  obtain ⟨no, sl, ga, wi, dr, de, cv, cs, ma, mn, mc, xs⟩ := m
  simp only at hcv hc1 HC0 HN0 HCA HX HMO HMY HMN
  have hlen := HX.out.len
  have hcap := HX.out.hcap
  have hmax := HX.out.hmax
  subst hlen hcv
  have HCS := Lib.hid HM.out.c
  simp only at HCS
  show Calls Try.prog 29 #[.agg #[.int .i64 no, .int .i64 sl, .int .i64 ga, .int .i64 wi, .int .i64 dr, .int .i64 de, .slice ca cs.length cc, .slice ma xs.length mc]] w _
  have HB := Lib.hid (Box.new w 25 #[.int .i64 no, .int .i64 sl, .int .i64 ga, .int .i64 wi, .int .i64 dr, .int .i64 de, .slice ca cs.length cc, .slice ma xs.length mc])
  have HK := Lib.hid ((Keeps.refl w).alloc (.cells #[.int .i64 no, .int .i64 sl, .int .i64 ga, .int .i64 wi, .int .i64 dr, .int .i64 de, .slice ca cs.length cc, .slice ma xs.length mc] 25))
  by_cases a1 : no < 4
  · have HE := Lib.hid (HNO.out (by rintro ⟨h1, -, -⟩; have h2 := HC0.out.1 h1; omega))
    have d0 : decide (no < 4) = true := by simpa using a1
    go_enter Try.func29, Try.ntmps29
    go_wp2_with fail
    go_ret
    exact ⟨ret_int HE.out.symm, HK.out⟩
  have a1_0 : decide (no < 4) = false := by simpa using a1
  by_cases a2 : 8 < no
  · have HE := Lib.hid (HNO.out (by rintro ⟨h1, -, -⟩; have h2 := HC0.out.1 h1; omega))
    have d0 : decide (8 < no) = true := by simpa using a2
    go_enter Try.func29, Try.ntmps29
    go_wp2_with fail
    go_ret
    exact ⟨ret_int HE.out.symm, HK.out⟩
  have a2_0 : decide (8 < no) = false := by simpa using a2
  by_cases a3 : xs.length < 1
  · have HE := Lib.hid (HNO.out (by rintro ⟨h1, -, -⟩; have h2 := HC0.out.1 h1; omega))
    have d0 : decide ((xs.length : Int) < 1) = true := by simp; omega
    have d1 : decide (xs.length < 1) = true := by simpa using a3
    go_enter Try.func29, Try.ntmps29
    go_wp2_with fail
    go_ret
    exact ⟨ret_int HE.out.symm, HK.out⟩
  have a3_0 : decide ((xs.length : Int) < 1) = false := by simp; omega
  have a3_1 : decide (xs.length < 1) = false := by simpa using a3
  by_cases a4 : 4 < xs.length
  · have HE := Lib.hid (HNO.out (by rintro ⟨h1, -, -⟩; have h2 := HC0.out.1 h1; omega))
    have d0 : decide ((4 : Int) < (xs.length : Int)) = true := by simp; omega
    have d1 : decide (4 < xs.length) = true := by simpa using a4
    go_enter Try.func29, Try.ntmps29
    go_wp2_with fail
    go_ret
    exact ⟨ret_int HE.out.symm, HK.out⟩
  have a4_0 : decide ((4 : Int) < (xs.length : Int)) = false := by simp; omega
  have a4_1 : decide (4 < xs.length) = false := by simpa using a4
  by_cases a5 : (cs.length : Int) ≠ no
  · have HE := Lib.hid (HNO.out (by rintro ⟨h1, -, -⟩; have h2 := HC0.out.1 h1; omega))
    have d0 : ((cs.length : Int) != no) = true := by rw [bne_iff_ne]; exact a5
    go_enter Try.func29, Try.ntmps29
    go_wp2_with fail
    go_ret
    exact ⟨ret_int HE.out.symm, HK.out⟩
  have a5_0 : ((cs.length : Int) != no) = false := by rw [bne_eq_false_iff_eq]; omega
  go_enter Try.func29, Try.ntmps29
  go_wp2_with fail
  with_reducible refine (trues_any _ cs _ (by exact HCS.out.keeps HK.out)).mono ?_
  rintro e w1 ⟨rfl, hk1⟩
  replace HB := Lib.hid (HB.out.keeps hk1)
  replace HK := Lib.hid (HK.out.trans hk1)
  clear hk1
  have hT := truesTo_le cs cs.length
  obtain ⟨T, hT'⟩ : ∃ T, T = truesTo cs cs.length := ⟨_, rfl⟩
  rw [← hT'] at HC0 hT ⊢
  clear hT'
  have m0 := HB.out.cell 0 _ rfl
  have m1 := HB.out.cell 1 _ rfl
  have m2 := HB.out.cell 2 _ rfl
  have m3 := HB.out.cell 3 _ rfl
  have m4 := HB.out.cell 4 _ rfl
  have m5 := HB.out.cell 5 _ rfl
  have m6 := HB.out.cell 6 _ rfl
  have m7 := HB.out.cell 7 _ rfl
  have ml := HB.out.lt
  by_cases a6 : T < 2
  · have HE := Lib.hid (HNO.out (by rintro ⟨h1, -, -⟩; have h2 := HC0.out.1 h1; omega))
    have d1 : decide ((T : Int) < 2) = true := by simp; omega
    have d2 : decide (T < 2) = true := by simp; omega
    go_wp2_with fail
    go_ret
    exact ⟨ret_int HE.out.symm, HK.out⟩
  have a6_1 : decide ((T : Int) < 2) = false := by simp; omega
  have a6_2 : decide (T < 2) = false := by simp; omega
  have HCC := Lib.hid (HC0.out.2 (by omega))
  have hcn := a5
  clear HC0
  go_wp2_with fail
  clear m0 m1 m2 m3 m4 m5 m6 m7 ml

  go_loopw [3] (fun i wr => ∃ k : Nat, k ≤ xs.length ∧ i = .int .i64 k ∧ Hid (∀ i (hi : i < xs.length), i < k → modeOk no xs.length cs xs[i] = true) ∧ Hid (Box wr w.heap.size 25 #[.int .i64 no, .int .i64 sl, .int .i64 ga, .int .i64 wi, .int .i64 dr, .int .i64 de, .slice ca cs.length cc, .slice ma xs.length mc]) ∧ Hid (Keeps w wr)) (fun i _ => xs.length - (intOf i).toNat)
  case atStart => exact ⟨0, by omega, rfl, fun i _ hi => absurd hi (by omega), HB, HK⟩
  case round =>
    clear HB HK
    obtain ⟨k, hk, rfl, HI, HB, HK⟩ := hrel
    have m0 := HB.out.cell 0 _ rfl
    have m1 := HB.out.cell 1 _ rfl
    have m2 := HB.out.cell 2 _ rfl
    have m3 := HB.out.cell 3 _ rfl
    have m4 := HB.out.cell 4 _ rfl
    have m5 := HB.out.cell 5 _ rfl
    have m6 := HB.out.cell 6 _ rfl
    have m7 := HB.out.cell 7 _ rfl
    have ml := HB.out.lt
    by_cases hlt : k < xs.length
    · obtain ⟨b, off, rfl, hcell⟩ := HX.out.addr (by omega)
      obtain ⟨e0, e1, e2⟩ := hcell k hlt
      have HXI := Lib.hid (HX.out.isIn _ (List.getElem_mem hlt))
      clear hcell
      have HNM : Hid (modeOk no xs.length cs xs[k] = false → D = false) := fun h => HMN.out _ (List.getElem_mem hlt) h
      have HYES : Hid (modeOk no xs.length cs xs[k] = true → ∀ i (hi : i < xs.length), i < k + 1 → modeOk no xs.length cs xs[i] = true) := fun h i hi hik => by
        by_cases e : i = k
        · subst e; exact h
        · exact HI.out i hi (by omega)
      obtain ⟨x, hx⟩ : ∃ x, x = xs[k] := ⟨_, rfl⟩
      rw [← hx] at e0 e1 e2 HXI HNM HYES
      clear hx HI
      obtain ⟨da, dc, hdv, hd1, hd2, hd3⟩ := HXI.out.d.shape
      obtain ⟨ea, ec, hev, he1, he2, he3⟩ := HXI.out.e.shape
      obtain ⟨na, nc, hnv, hn1, hn2, hn3⟩ := HXI.out.n.shape
      clear hd3 he3 hn3 hd1 hd2 he1 he2 hn1 hn2
      obtain ⟨xd, xe, xn, ds, es, ns⟩ := x
      simp only at hdv hev hnv e0 e1 e2
      subst hdv hev hnv
      have HCON : Hid (∀ w', Keeps w w' → Calls Try.prog 71 #[.agg #[.slice da ds.length dc, .slice ea es.length ec, .slice na ns.length nc], .agg #[.int .i64 no, .int .i64 sl, .int .i64 ga, .int .i64 wi, .int .i64 dr, .int .i64 de, .slice ca cs.length cc, .slice (some ⟨b, off, none⟩) xs.length mc]] w' fun e w'' => e = .returned (.bool (modeOk no xs.length cs ⟨.slice da ds.length dc, .slice ea es.length ec, .slice na ns.length nc, ds, es, ns⟩)) ∧ Keeps w' w'') := fun w' hk =>
        HMO.out ⟨.slice da ds.length dc, .slice ea es.length ec, .slice na ns.length nc, ds, es, ns⟩ w' (HM.out.keeps hk) (HXI.out.keeps hk) HCC.out
      obtain ⟨G, hG⟩ : ∃ G, G = modeOk no xs.length cs ⟨.slice da ds.length dc, .slice ea es.length ec, .slice na ns.length nc, ds, es, ns⟩ := ⟨_, rfl⟩
      rw [← hG] at HCON HNM HYES
      clear hG
      clear m0 m1 m2 m3 m4 m5 m6 ml
      go_wp2_with fail
      clear m7
      have c0 := HB.out.later 0 _ rfl
      have c1 := HB.out.later 1 _ rfl
      have c2 := HB.out.later 2 _ rfl
      have c3 := HB.out.later 3 _ rfl
      have c4 := HB.out.later 4 _ rfl
      have c5 := HB.out.later 5 _ rfl
      have c6 := HB.out.later 6 _ rfl
      have c7 := HB.out.later 7 _ rfl
      have c8 := fun q : Later wr => (HK.out.trans q.keeps).later e0
      have c9 := fun q : Later wr => (HK.out.trans q.keeps).later e1
      have c10 := fun q : Later wr => (HK.out.trans q.keeps).later e2
      clear e0 e1 e2
      refine wp_region_later (by kernel_rfl) (by kernel_rfl) ?_
      repeat (go_big_quiet_step (first | (go_at_call 71; with_reducible exact Later.calls _ (HCON.out _ (HK.out.trans (Later.keeps _))))))
      refine wpQuiet_nil ?_
      rintro _ ⟨q, rfl⟩
      obtain ⟨wq, hwq⟩ := q
      simp only
      replace HB := Lib.hid (HB.out.keeps hwq)
      replace HK := Lib.hid (HK.out.trans hwq)
      clear c0 c1 c2 c3 c4 c5 c6 c7 c8 c9 c10 hwq
      cases G
      · have HE := Lib.hid (HNO.out (by rintro ⟨-, h2, -⟩; rw [HNM.out (by first | rfl | trivial)] at h2; cases h2))
        go_wp2_with fail
        go_ret
        exact ⟨ret_int HE.out.symm, HK.out⟩
      · go_wp2_with fail
        go_roundw
        case rel => exact ⟨k + 1, by omega, by go_num, HYES.out (by first | rfl | trivial), HB, HK⟩
        case measure => simp [intOf]; omega
    · obtain rfl : k = xs.length := by omega
      have HD := Lib.hid (HMY.out fun x hx => by
        obtain ⟨i, hi, rfl⟩ := List.getElem_of_mem hx
        exact HI.out i hi hi)
      clear HI HMO HMY HMN
      by_cases t1 : dr < 0
      · have HE := Lib.hid (HNO.out (by rintro ⟨-, -, h3⟩; have h2 := HN0.out.1 h3; omega))
        have d0 : decide (dr < 0) = true := by simpa using t1
        go_wp2_with fail
        go_ret
        exact ⟨ret_int HE.out.symm, HK.out⟩
      have t1_0 : decide (dr < 0) = false := by simpa using t1
      by_cases t2 : 64 < dr
      · have HE := Lib.hid (HNO.out (by rintro ⟨-, -, h3⟩; have h2 := HN0.out.1 h3; omega))
        have d0 : decide (64 < dr) = true := by simpa using t2
        go_wp2_with fail
        go_ret
        exact ⟨ret_int HE.out.symm, HK.out⟩
      have t2_0 : decide (64 < dr) = false := by simpa using t2
      by_cases t3 : de < 0
      · have HE := Lib.hid (HNO.out (by rintro ⟨-, -, h3⟩; have h2 := HN0.out.1 h3; omega))
        have d0 : decide (de < 0) = true := by simpa using t3
        go_wp2_with fail
        go_ret
        exact ⟨ret_int HE.out.symm, HK.out⟩
      have t3_0 : decide (de < 0) = false := by simpa using t3
      by_cases t4 : 64 < de
      · have HE := Lib.hid (HNO.out (by rintro ⟨-, -, h3⟩; have h2 := HN0.out.1 h3; omega))
        have d0 : decide (64 < de) = true := by simpa using t4
        go_wp2_with fail
        go_ret
        exact ⟨ret_int HE.out.symm, HK.out⟩
      have t4_0 : decide (64 < de) = false := by simpa using t4
      have hnd : 0 ≤ no * dr := Int.mul_nonneg (by omega) (by omega)
      have hnd2 : no * dr ≤ 8 * 64 := Int.mul_le_mul (by omega) (by omega) (by omega) (by omega)
      have hnd3 : 16 * no * dr = 16 * (no * dr) := Int.mul_assoc _ _ _
      rw [hnd3] at HN0
      have hw1 : IntKind.i64.wrap (16 * no) = 16 * no := by simp [IntKind.wrap, IntKind.bits, IntKind.signed]; omega
      have hw2 : IntKind.i64.wrap (16 * no * dr) = 16 * (no * dr) := by rw [hnd3]; simp [IntKind.wrap, IntKind.bits, IntKind.signed]; omega
      have hw3 : IntKind.i64.wrap (16 * (no * dr) + 16) = 16 * (no * dr) + 16 := by simp [IntKind.wrap, IntKind.bits, IntKind.signed]; omega
      by_cases t5 : wi < 16 * (no * dr) + 16
      · have HE := Lib.hid (HNO.out (by rintro ⟨-, -, h3⟩; have h2 := HN0.out.1 h3; omega))
        have d0 : decide (wi < 16 * (no * dr) + 16) = true := by simpa using t5
        go_wp2_with fail
        go_ret
        exact ⟨ret_int HE.out.symm, HK.out⟩
      have t5_0 : decide (wi < 16 * (no * dr) + 16) = false := by simpa using t5
      by_cases t6 : 1048576 < wi
      · have HE := Lib.hid (HNO.out (by rintro ⟨-, -, h3⟩; have h2 := HN0.out.1 h3; omega))
        have d0 : decide (1048576 < wi) = true := by simpa using t6
        go_wp2_with fail
        go_ret
        exact ⟨ret_int HE.out.symm, HK.out⟩
      have t6_0 : decide (1048576 < wi) = false := by simpa using t6
      go_wp2_with fail
      have c0 := HB.out.later 0 _ rfl
      have c1 := HB.out.later 1 _ rfl
      have c2 := HB.out.later 2 _ rfl
      have c3 := HB.out.later 3 _ rfl
      have c4 := HB.out.later 4 _ rfl
      have c5 := HB.out.later 5 _ rfl
      have c6 := HB.out.later 6 _ rfl
      have c7 := HB.out.later 7 _ rfl
      clear m0 m1 m2 m3 m4 m5 m6 m7 ml
      have hw6 : IntKind.i64.wrap (2 * wi) = 2 * wi := by simp [IntKind.wrap, IntKind.bits, IntKind.signed]; omega
      have hw7 : IntKind.i64.wrap (2 * de) = 2 * de := by simp [IntKind.wrap, IntKind.bits, IntKind.signed]; omega
      have hw8 : IntKind.i64.wrap (2 * wi + 2 * de) = 2 * wi + 2 * de := by simp [IntKind.wrap, IntKind.bits, IntKind.signed]; omega
      have hw9 : IntKind.i64.wrap (2 * wi + 2 * de + 4) = 2 * wi + 2 * de + 4 := by simp [IntKind.wrap, IntKind.bits, IntKind.signed]; omega
      by_cases t7 : ga < 2 * wi + 2 * de + 4
      · have HE := Lib.hid (HNO.out (by rintro ⟨-, -, h3⟩; have h2 := HN0.out.1 h3; omega))
        have d0 : decide (ga < 2 * wi + 2 * de + 4) = true := by simpa using t7
        refine wp_region_later (by kernel_rfl) (by kernel_rfl) ?_
        repeat (go_big_quiet_step (first | (go_at_call 31; with_reducible exact Later.calls _ (HCA.out _ (HM.out.keeps (HK.out.trans (Later.keeps _)))))))
        refine wpQuiet_nil ?_
        rintro _ ⟨q, rfl⟩
        obtain ⟨wq, hwq⟩ := q
        simp only
        replace HK := Lib.hid (HK.out.trans hwq)
        clear c0 c1 c2 c3 c4 c5 c6 c7 hwq
        go_wp2_with fail
        go_ret
        exact ⟨ret_int HE.out.symm, HK.out⟩
      have t7_0 : decide (ga < 2 * wi + 2 * de + 4) = false := by simpa using t7
      by_cases t8 : 1048576 < ga
      · have HE := Lib.hid (HNO.out (by rintro ⟨-, -, h3⟩; have h2 := HN0.out.1 h3; omega))
        have d0 : decide (1048576 < ga) = true := by simpa using t8
        refine wp_region_later (by kernel_rfl) (by kernel_rfl) ?_
        repeat (go_big_quiet_step (first | (go_at_call 31; with_reducible exact Later.calls _ (HCA.out _ (HM.out.keeps (HK.out.trans (Later.keeps _)))))))
        refine wpQuiet_nil ?_
        rintro _ ⟨q, rfl⟩
        obtain ⟨wq, hwq⟩ := q
        simp only
        replace HK := Lib.hid (HK.out.trans hwq)
        clear c0 c1 c2 c3 c4 c5 c6 c7 hwq
        go_wp2_with fail
        go_ret
        exact ⟨ret_int HE.out.symm, HK.out⟩
      have t8_0 : decide (1048576 < ga) = false := by simpa using t8
      have hga : 0 ≤ ga := by omega
      have hw4 : IntKind.i64.wrap (2 * ga) = 2 * ga := by simp [IntKind.wrap, IntKind.bits, IntKind.signed]; omega
      have hw5 : IntKind.i64.wrap (2 * ga + A) = 2 * ga + A := by simp [IntKind.wrap, IntKind.bits, IntKind.signed]; omega
      by_cases t9 : sl < 2 * ga + A
      · have HE := Lib.hid (HNO.out (by rintro ⟨-, -, h3⟩; have h2 := HN0.out.1 h3; omega))
        have d0 : decide (sl < 2 * ga + A) = true := by simpa using t9
        refine wp_region_later (by kernel_rfl) (by kernel_rfl) ?_
        repeat (go_big_quiet_step (first | (go_at_call 31; with_reducible exact Later.calls _ (HCA.out _ (HM.out.keeps (HK.out.trans (Later.keeps _)))))))
        refine wpQuiet_nil ?_
        rintro _ ⟨q, rfl⟩
        obtain ⟨wq, hwq⟩ := q
        simp only
        replace HK := Lib.hid (HK.out.trans hwq)
        clear c0 c1 c2 c3 c4 c5 c6 c7 hwq
        go_wp2_with fail
        go_ret
        exact ⟨ret_int HE.out.symm, HK.out⟩
      have t9_0 : decide (sl < 2 * ga + A) = false := by simpa using t9
      by_cases t10 : 16777216 < sl
      · have HE := Lib.hid (HNO.out (by rintro ⟨-, -, h3⟩; have h2 := HN0.out.1 h3; omega))
        have d0 : decide (16777216 < sl) = true := by simpa using t10
        refine wp_region_later (by kernel_rfl) (by kernel_rfl) ?_
        repeat (go_big_quiet_step (first | (go_at_call 31; with_reducible exact Later.calls _ (HCA.out _ (HM.out.keeps (HK.out.trans (Later.keeps _)))))))
        refine wpQuiet_nil ?_
        rintro _ ⟨q, rfl⟩
        obtain ⟨wq, hwq⟩ := q
        simp only
        replace HK := Lib.hid (HK.out.trans hwq)
        clear c0 c1 c2 c3 c4 c5 c6 c7 hwq
        go_wp2_with fail
        go_ret
        exact ⟨ret_int HE.out.symm, HK.out⟩
      have t10_0 : decide (16777216 < sl) = false := by simpa using t10
      have HE := Lib.hid (HOK.out ⟨HCC.out, HD.out, HN0.out.2 (by omega)⟩)
      refine wp_region_later (by kernel_rfl) (by kernel_rfl) ?_
      repeat (go_big_quiet_step (first | (go_at_call 31; with_reducible exact Later.calls _ (HCA.out _ (HM.out.keeps (HK.out.trans (Later.keeps _)))))))
      refine wpQuiet_nil ?_
      rintro _ ⟨q, rfl⟩
      obtain ⟨wq, hwq⟩ := q
      simp only
      replace HK := Lib.hid (HK.out.trans hwq)
      clear c0 c1 c2 c3 c4 c5 c6 c7 hwq
      go_wp2_with fail
      go_ret
      exact ⟨ret_int HE.out.symm, HK.out⟩
end Go.Proofs.Ytmjodcackmjllaa
