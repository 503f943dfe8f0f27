/- The walk of MedlChecks. -/
import Derived.Test.YtmjodcackmjllaaH2
import Derived.Test.YtmjodcackmjllaaH4
import Derived.Test.YtmjodcackmjllaaM10
import Derived.Test.YtmjodcackmjllaaN7
namespace Go.Proofs.Ytmjodcackmjllaa
open Go.RowKit Go.Shelf
set_option linter.unusedVariables false
set_option linter.unusedSimpArgs false
/-- what Plain makes: the smallest list, or none -/
def PlainR (n dr : Int) (w : World) (m : RMedl) (E : Int) : Prop :=
  m.In w ∧ ((4 ≤ n ∧ n ≤ 8 ∧ 0 ≤ dr ∧ dr ≤ 64 ∧ PlainM n dr w m ∧ E = 0) ∨ (¬ (4 ≤ n ∧ n ≤ 8 ∧ 0 ≤ dr ∧ dr ≤ 64) ∧ m = RMedl.zero ∧ E = 2))
theorem plain_same (n dr : Int) {w w' : World} {m m' : RMedl} {E E' : Int} (h : PlainR n dr w m E) (h' : PlainR n dr w' m' E') : sameL m m' = true ∧ E = E' := by
  obtain ⟨-, ⟨a1, a2, a3, a4, hp, rfl⟩ | ⟨hn, rfl, rfl⟩⟩ := h <;> obtain ⟨-, ⟨b1, b2, b3, b4, hp', rfl⟩ | ⟨hn', rfl, rfl⟩⟩ := h'
  · refine ⟨(sameL_iff _ _).2 ?_, rfl⟩
    obtain ⟨x, hx, x1, x2, x3⟩ := hp.xs
    obtain ⟨y, hy, y1, y2, y3⟩ := hp'.xs
    have hw : m.window = m'.window := by rw [hp.window, hp'.window]
    have hd : m.delay = m'.delay := by rw [hp.delay, hp'.delay]
    have hg : m.gap = m'.gap := by rw [hp.gap, hp'.gap, hw, hd]
    have hn : m.nodes = m'.nodes := by rw [hp.nodes, hp'.nodes]
    have hxy : m.xs.map RM.p = m'.xs.map RM.p := by
      rw [hx, hy]
      simp only [List.map_cons, List.map_nil, RM.p, x1, x2, x3, y1, y2, y3]
    have ha : m.mair = m'.mair := by
      unfold RMedl.mair
      rw [hx, hy, hn]
      simp only [mairI, mairTo, List.length_singleton]
      simp [x1, x2, y1, y2]
    refine ⟨hn, by rw [hp.slot, hp'.slot, hg, ha], hg, hw, by rw [hp.drift, hp'.drift], hd, by rw [hp.cs, hp'.cs], hxy⟩
  · exact absurd ⟨a1, a2, a3, a4⟩ hn'
  · exact absurd ⟨b1, b2, b3, b4⟩ hn
  · exact ⟨sameL_self _, rfl⟩
theorem plain7_all (n dr : Int) (w : World) : Calls Try.prog 27 #[.int .i64 n, .int .i64 dr] w fun e w' => ∃ (m : RMedl) (E : Int), e = .returned (.tuple #[m.val, .int .i64 E]) ∧ PlainR n dr w' m E ∧ Keeps w w' := by
  by_cases h1 : 4 ≤ n ∧ n ≤ 8
  · by_cases h2 : 0 ≤ dr ∧ dr ≤ 64
    · obtain ⟨k, rfl⟩ : ∃ k : Nat, n = k := ⟨n.toNat, (Int.toNat_of_nonneg (by omega)).symm⟩
      refine (plain_any k dr w (by omega) (by omega) h2.1 h2.2).mono ?_
      rintro e w' ⟨m, rfl, hm, hk⟩
      exact ⟨m, 0, rfl, ⟨hm.isIn, .inl ⟨h1.1, h1.2, h2.1, h2.2, hm, rfl⟩⟩, hk⟩
    · refine (plain_bad2 n dr w h1 h2).mono ?_
      rintro e w' ⟨rfl, hk⟩
      exact ⟨_, 2, rfl, ⟨RMedl.zero_in _, .inr ⟨fun h => h2 ⟨h.2.2.1, h.2.2.2⟩, rfl, rfl⟩⟩, hk⟩
  · refine (plain_bad1 n dr w h1).mono ?_
    rintro e w' ⟨rfl, hk⟩
    exact ⟨_, 2, rfl, ⟨RMedl.zero_in _, .inr ⟨fun h => h1 ⟨h.1, h.2.1⟩, rfl, rfl⟩⟩, hk⟩
theorem rplain7_all (n dr : Int) (w : World) : Calls Try.prog 28 #[.int .i64 n, .int .i64 dr] w fun e w' => ∃ (m : RMedl) (E : Int), e = .returned (.tuple #[m.val, .int .i64 E]) ∧ PlainR n dr w' m E ∧ Keeps w w' := by
  by_cases h1 : 4 ≤ n ∧ n ≤ 8
  · by_cases h2 : 0 ≤ dr ∧ dr ≤ 64
    · refine (rplain_any n dr w h1.1 h1.2 h2.1 h2.2).mono ?_
      rintro e w' ⟨m, rfl, hm, hk⟩
      exact ⟨m, 0, rfl, ⟨hm.isIn, .inl ⟨h1.1, h1.2, h2.1, h2.2, hm, rfl⟩⟩, hk⟩
    · refine (rplain_bad2 n dr w h1 h2).mono ?_
      rintro e w' ⟨rfl, hk⟩
      exact ⟨_, 2, rfl, ⟨RMedl.zero_in _, .inr ⟨fun h => h2 ⟨h.2.2.1, h.2.2.2⟩, rfl, rfl⟩⟩, hk⟩
  · refine (rplain_bad1 n dr w h1).mono ?_
    rintro e w' ⟨rfl, hk⟩
    exact ⟨_, 2, rfl, ⟨RMedl.zero_in _, .inr ⟨fun h => h1 ⟨h.1, h.2.1⟩, rfl, rfl⟩⟩, hk⟩
set_option maxRecDepth 100000 in
set_option maxHeartbeats 4000000 in
theorem medlChecks_any (a b : RMedl) (n dr : Int) (w : World) (ha : a.In w) (hb : b.In w) :
    Calls Try.prog 8 #[a.val, b.val, .int .i64 n, .int .i64 dr] w fun e w' => e = .returned (.bool true) ∧ Keeps w w' := by
  have HA := Lib.hid ha
  have HB := Lib.hid hb
  clear ha hb
  have HC1 : Hid (∀ w, a.In w → Calls Try.prog 21 #[a.val] w fun e w' => e = .returned (.int .i64 (medlErr a)) ∧ Keeps w w') := Lib.hid (fun w h => mcheck_any a w h)
  have HC2 : Hid (∀ w, a.In w → Calls Try.prog 29 #[a.val] w fun e w' => e = .returned (.int .i64 (medlErr a)) ∧ Keeps w w') := Lib.hid (fun w h => rmcheck_any a w h)
  have HM1 : Hid (∀ w, a.In w → Calls Try.prog 30 #[a.val] w fun e w' => e = .returned (.int .i64 a.mair) ∧ Keeps w w') := Lib.hid (fun w h => mair_any a w h)
  have HM2 : Hid (∀ w, a.In w → Calls Try.prog 31 #[a.val] w fun e w' => e = .returned (.int .i64 a.mair) ∧ Keeps w w') := Lib.hid (fun w h => rmair_any a w h)
  have HS1 : Hid (∀ w, a.In w → b.In w → Calls Try.prog 32 #[a.val, b.val] w fun e w' => e = .returned (.bool (sameL a b)) ∧ Keeps w w') := Lib.hid (fun w h1 h2 => msame_any a b w h1 h2)
  have HS2 : Hid (∀ w, a.In w → b.In w → Calls Try.prog 33 #[a.val, b.val] w fun e w' => e = .returned (.bool (sameL a b)) ∧ Keeps w w') := Lib.hid (fun w h1 h2 => rsame7_any a b w h1 h2)
  have HS3 : Hid (∀ w, a.In w → Calls Try.prog 32 #[a.val, a.val] w fun e w' => e = .returned (.bool true) ∧ Keeps w w') := Lib.hid (fun w h1 => by have h := msame_any a a w h1 h1; rw [sameL_self] at h; exact h)
  obtain ⟨EA, hEA⟩ : ∃ EA, EA = medlErr a := ⟨_, rfl⟩
  obtain ⟨MA, hMA⟩ : ∃ MA, MA = a.mair := ⟨_, rfl⟩
  obtain ⟨S, hS⟩ : ∃ S, S = sameL a b := ⟨_, rfl⟩
  rw [← hEA] at HC1 HC2
  rw [← hMA] at HM1 HM2
  rw [← hS] at HS1 HS2
  clear hEA hMA hS
  have dEA : (EA == EA) = true := by simp
  have dMA : (MA == MA) = true := by simp
  have dS : (S == S) = true := by simp
  have HAI : Hid (∀ w', Keeps w w' → a.In w') := Lib.hid (fun w' h => HA.out.keeps h)
  have HBI : Hid (∀ w', Keeps w w' → b.In w') := Lib.hid (fun w' h => HB.out.keeps h)
  clear HA HB
  obtain ⟨no, sl, ga, wi, dr1, de, cv, cs, ma, mn, mc, xs⟩ := a
  obtain ⟨no2, sl2, ga2, wi2, dr2, de2, cv2, cs2, ma2, mn2, mc2, ys⟩ := b
  have HK := Lib.hid (((Keeps.refl w).alloc (.cells #[.int .i64 no, .int .i64 sl, .int .i64 ga, .int .i64 wi, .int .i64 dr1, .int .i64 de, cv, .slice ma mn mc] 25)).alloc (.cells #[.int .i64 no2, .int .i64 sl2, .int .i64 ga2, .int .i64 wi2, .int .i64 dr2, .int .i64 de2, cv2, .slice ma2 mn2 mc2] 25))
  have HBX := Lib.hid ((Box.new w 25 #[.int .i64 no, .int .i64 sl, .int .i64 ga, .int .i64 wi, .int .i64 dr1, .int .i64 de, cv, .slice ma mn mc]).next (.cells #[.int .i64 no2, .int .i64 sl2, .int .i64 ga2, .int .i64 wi2, .int .i64 dr2, .int .i64 de2, cv2, .slice ma2 mn2 mc2] 25))
  have hz := Box.new (w.alloc (.cells #[.int .i64 no, .int .i64 sl, .int .i64 ga, .int .i64 wi, .int .i64 dr1, .int .i64 de, cv, .slice ma mn mc] 25)) 25 #[.int .i64 no2, .int .i64 sl2, .int .i64 ga2, .int .i64 wi2, .int .i64 dr2, .int .i64 de2, cv2, .slice ma2 mn2 mc2]
  rw [World.size_alloc] at hz
  have HBY := Lib.hid hz
  clear hz
  go_enter Try.func8, Try.ntmps8
  go_wp2_with fail
  (with_reducible refine (plain7_all _ _ _).mono ?_)
  rintro e w1 ⟨⟨p0, p1, p2, p3, p4, p5, pv, pcs, pa, pn, pc, pxs⟩, E, he, hp, hk1⟩
  have he2 : e = .returned (.tuple #[.agg #[.int .i64 p0, .int .i64 p1, .int .i64 p2, .int .i64 p3, .int .i64 p4, .int .i64 p5, pv, .slice pa pn pc], .int .i64 E]) := he
  subst he2
  clear he
  obtain ⟨pca, pcc, hpv, -, -, -⟩ := id hp.1.c.shape
  simp only at hpv
  subst hpv
  replace HK := Lib.hid (HK.out.trans hk1)
  replace HBX := Lib.hid (HBX.out.keeps hk1)
  replace HBY := Lib.hid (HBY.out.keeps hk1)
  have HP := Lib.hid hp
  clear hk1 hp
  go_wp2_with fail
  have HPX := Lib.hid (Box.new w1 25 #[.int .i64 p0, .int .i64 p1, .int .i64 p2, .int .i64 p3, .int .i64 p4, .int .i64 p5, .slice pca pcs.length pcc, .slice pa pn pc])
  replace HK := Lib.hid (HK.out.alloc (.cells #[.int .i64 p0, .int .i64 p1, .int .i64 p2, .int .i64 p3, .int .i64 p4, .int .i64 p5, .slice pca pcs.length pcc, .slice pa pn pc] 25))
  replace HBX := Lib.hid (HBX.out.next (.cells #[.int .i64 p0, .int .i64 p1, .int .i64 p2, .int .i64 p3, .int .i64 p4, .int .i64 p5, .slice pca pcs.length pcc, .slice pa pn pc] 25))
  replace HBY := Lib.hid (HBY.out.next (.cells #[.int .i64 p0, .int .i64 p1, .int .i64 p2, .int .i64 p3, .int .i64 p4, .int .i64 p5, .slice pca pcs.length pcc, .slice pa pn pc] 25))
  have HPI := Lib.hid (HP.out.1.keeps ((Keeps.refl w1).alloc (.cells #[.int .i64 p0, .int .i64 p1, .int .i64 p2, .int .i64 p3, .int .i64 p4, .int .i64 p5, .slice pca pcs.length pcc, .slice pa pn pc] 25)))
  (with_reducible refine (rplain7_all _ _ _).mono ?_)
  rintro e w2 ⟨⟨q0, q1, q2, q3, q4, q5, qv, qcs, qa, qn, qc, qxs⟩, E2, he, hq, hk2⟩
  have he2 : e = .returned (.tuple #[.agg #[.int .i64 q0, .int .i64 q1, .int .i64 q2, .int .i64 q3, .int .i64 q4, .int .i64 q5, qv, .slice qa qn qc], .int .i64 E2]) := he
  subst he2
  clear he
  obtain ⟨qca, qcc, hqv, -, -, -⟩ := id hq.1.c.shape
  simp only at hqv
  subst hqv
  obtain ⟨hsm, rfl⟩ := plain_same n dr HP.out hq
  replace HK := Lib.hid (HK.out.trans hk2)
  replace HBX := Lib.hid (HBX.out.keeps hk2)
  replace HBY := Lib.hid (HBY.out.keeps hk2)
  replace HPX := Lib.hid (HPX.out.keeps hk2)
  replace HPI := Lib.hid (HPI.out.keeps hk2)
  have HQI := Lib.hid hq.1
  have HSM := Lib.hid hsm
  clear hk2 hq hsm HP
  have HS4 : Hid (∀ w', RMedl.In ⟨p0, p1, p2, p3, p4, p5, .slice pca pcs.length pcc, pcs, pa, pn, pc, pxs⟩ w' → RMedl.In ⟨q0, q1, q2, q3, q4, q5, .slice qca qcs.length qcc, qcs, qa, qn, qc, qxs⟩ w' → Calls Try.prog 33 #[.agg #[.int .i64 p0, .int .i64 p1, .int .i64 p2, .int .i64 p3, .int .i64 p4, .int .i64 p5, .slice pca pcs.length pcc, .slice pa pn pc], .agg #[.int .i64 q0, .int .i64 q1, .int .i64 q2, .int .i64 q3, .int .i64 q4, .int .i64 q5, .slice qca qcs.length qcc, .slice qa qn qc]] w' fun e w'' => e = .returned (.bool true) ∧ Keeps w' w'') := Lib.hid (fun w' h1 h2 => by
    have h := rsame7_any _ _ w' h1 h2
    rw [HSM.out] at h
    exact h)
  have dE : (E == E) = true := by simp
  go_wp2_with fail
  have HQX := Lib.hid (Box.new w2 25 #[.int .i64 q0, .int .i64 q1, .int .i64 q2, .int .i64 q3, .int .i64 q4, .int .i64 q5, .slice qca qcs.length qcc, .slice qa qn qc])
  have KN := Lib.hid ((Keeps.refl w2).alloc (.cells #[.int .i64 q0, .int .i64 q1, .int .i64 q2, .int .i64 q3, .int .i64 q4, .int .i64 q5, .slice qca qcs.length qcc, .slice qa qn qc] 25))
  replace HK := Lib.hid (HK.out.trans KN.out)
  replace HBX := Lib.hid (HBX.out.keeps KN.out)
  replace HBY := Lib.hid (HBY.out.keeps KN.out)
  replace HPX := Lib.hid (HPX.out.keeps KN.out)
  replace HPI := Lib.hid (HPI.out.keeps KN.out)
  replace HQI := Lib.hid (HQI.out.keeps KN.out)
  have HAJ := Lib.hid (HAI.out _ HK.out)
  have HBJ := Lib.hid (HBI.out _ HK.out)
  clear KN
  have la0 := HBX.out.later 0 _ rfl
  have la1 := HBX.out.later 1 _ rfl
  have la2 := HBX.out.later 2 _ rfl
  have la3 := HBX.out.later 3 _ rfl
  have la4 := HBX.out.later 4 _ rfl
  have la5 := HBX.out.later 5 _ rfl
  have la6 := HBX.out.later 6 _ rfl
  have la7 := HBX.out.later 7 _ rfl
  have lb0 := HBY.out.later 0 _ rfl
  have lb1 := HBY.out.later 1 _ rfl
  have lb2 := HBY.out.later 2 _ rfl
  have lb3 := HBY.out.later 3 _ rfl
  have lb4 := HBY.out.later 4 _ rfl
  have lb5 := HBY.out.later 5 _ rfl
  have lb6 := HBY.out.later 6 _ rfl
  have lb7 := HBY.out.later 7 _ rfl
  have lp0 := HPX.out.later 0 _ rfl
  have lp1 := HPX.out.later 1 _ rfl
  have lp2 := HPX.out.later 2 _ rfl
  have lp3 := HPX.out.later 3 _ rfl
  have lp4 := HPX.out.later 4 _ rfl
  have lp5 := HPX.out.later 5 _ rfl
  have lp6 := HPX.out.later 6 _ rfl
  have lp7 := HPX.out.later 7 _ rfl
  have lq0 := HQX.out.later 0 _ rfl
  have lq1 := HQX.out.later 1 _ rfl
  have lq2 := HQX.out.later 2 _ rfl
  have lq3 := HQX.out.later 3 _ rfl
  have lq4 := HQX.out.later 4 _ rfl
  have lq5 := HQX.out.later 5 _ rfl
  have lq6 := HQX.out.later 6 _ rfl
  have lq7 := HQX.out.later 7 _ rfl
  refine wp_region_later (by kernel_rfl) (by kernel_rfl) ?_
  repeat (go_big_quiet_step (first
    | (go_at_call 20; with_reducible exact Later.calls _ (begun7_any _))
    | (go_at_call 21; with_reducible exact Later.calls _ (HC1.out _ (HAJ.out.keeps (Later.keeps _))))
    | (go_at_call 29; with_reducible exact Later.calls _ (HC2.out _ (HAJ.out.keeps (Later.keeps _))))
    | (go_at_call 30; with_reducible exact Later.calls _ (HM1.out _ (HAJ.out.keeps (Later.keeps _))))
    | (go_at_call 31; with_reducible exact Later.calls _ (HM2.out _ (HAJ.out.keeps (Later.keeps _))))
    | (go_at_call 32; first | with_reducible exact Later.calls _ (HS1.out _ (HAJ.out.keeps (Later.keeps _)) (HBJ.out.keeps (Later.keeps _))) | with_reducible exact Later.calls _ (HS3.out _ (HAJ.out.keeps (Later.keeps _))))
    | (go_at_call 33; first | with_reducible exact Later.calls _ (HS2.out _ (HAJ.out.keeps (Later.keeps _)) (HBJ.out.keeps (Later.keeps _))) | with_reducible exact Later.calls _ (HS4.out _ (HPI.out.keeps (Later.keeps _)) (HQI.out.keeps (Later.keeps _))))))
  refine wpQuiet_nil ?_
  rintro _ ⟨kk, rfl⟩
  replace HK := Lib.hid (HK.out.trans kk.keeps)
  go_wp2_with fail
  go_ret
  exact ⟨rfl, HK.out⟩
end Go.Proofs.Ytmjodcackmjllaa
