/- The walk of MedlMore. -/
import Derived.Test.YtmjodcackmjllaaN7
namespace Go.Proofs.Ytmjodcackmjllaa
open Go.RowKit Go.Shelf
set_option linter.unusedVariables false
set_option linter.unusedSimpArgs false
theorem medlOk_more {m : RMedl} (h : medlOk m = true) (s d : Int) (hs : m.slot ≤ s) (hs2 : s ≤ 16777216) (hd0 : 0 ≤ d) (hd : d ≤ m.drift) :
    medlOk ⟨m.nodes, s, m.gap, m.window, d, m.delay, m.cv, m.cs, m.ma, m.mn, m.mc, m.xs⟩ = true ∧ m.nodes * d ≤ m.nodes * m.drift := by
  obtain ⟨h1, h2, h3⟩ := (medlOk_iff m).1 h
  have b := (numsOk_iff m).1 h3
  have c := (countsOk_iff m).1 h1
  have hp : m.nodes * d ≤ m.nodes * m.drift := Int.mul_le_mul_of_nonneg_left hd (by omega)
  rw [Int.mul_assoc] at b
  refine ⟨(medlOk_iff _).2 ⟨h1, h2, (numsOk_iff _).2 ?_⟩, hp⟩
  have hm : RMedl.mair ⟨m.nodes, s, m.gap, m.window, d, m.delay, m.cv, m.cs, m.ma, m.mn, m.mc, m.xs⟩ = m.mair := rfl
  rw [hm]
  simp only
  rw [Int.mul_assoc]
  omega
set_option maxRecDepth 100000 in
set_option maxHeartbeats 2000000 in
theorem medlMore_any (m : RMedl) (mo le : Nat) (w : World) (hm : m.In w) (hmo : mo < 65536) (hle : le < 256) :
    Calls Try.prog 5 #[m.val, .int .u16 mo, .int .u8 le] w fun e w' => e = .returned (.bool true) ∧ Keeps w w' := by
  have HM := Lib.hid hm
  clear hm
  have HN0 := Lib.hid (@medlOk_nums m)
  have HMR := Lib.hid (@medlOk_more m)
  have HCH := Lib.hid (mcheck_any m)
  rw [medlErr_cond] at HCH
  have HP := Lib.hid (prec_any m)
  have HPR : Hid (precRes m = cond (medlOk m) (14 * (m.nodes * m.drift) + 8, 0) (0, 70)) := Lib.hid rfl
  rw [HPR.out] at HP
  clear HPR
  obtain ⟨O, hO⟩ : ∃ O, O = medlOk m := ⟨_, rfl⟩
  rw [← hO] at HN0 HMR HCH HP
  clear hO
  obtain ⟨ca, cc, hcv, hc1, hc2, hc3⟩ := HM.out.c.shape
  clear hc3
  obtain ⟨no, sl, ga, wi, dr, de, cv, cs, ma, mn, mc, xs⟩ := m
  simp only at hcv hc1 HN0 HMR HP
  subst hcv
  have HK := Lib.hid ((Keeps.refl w).alloc (.cells #[.int .i64 no, .int .i64 sl, .int .i64 ga, .int .i64 wi, .int .i64 dr, .int .i64 de, .slice ca cs.length cc, .slice ma mn mc] 25))
  have HB := Lib.hid (Box.new w 25 #[.int .i64 no, .int .i64 sl, .int .i64 ga, .int .i64 wi, .int .i64 dr, .int .i64 de, .slice ca cs.length cc, .slice ma mn mc])
  show Calls Try.prog 5 #[.agg #[.int .i64 no, .int .i64 sl, .int .i64 ga, .int .i64 wi, .int .i64 dr, .int .i64 de, .slice ca cs.length cc, .slice ma mn mc], .int .u16 mo, .int .u8 le] w _
  go_enter Try.func5, Try.ntmps5
  go_wp2_with fail
  with_reducible refine (begun7_any _).mono ?_
  rintro ee w1 ⟨rfl, hk1⟩
  replace HB := Lib.hid (HB.out.keeps hk1)
  replace HK := Lib.hid (HK.out.trans hk1)
  clear hk1
  have m0 := HB.out.cell 0 _ rfl
  have m1 := HB.out.cell 1 _ rfl
  have m2 := HB.out.cell 2 _ rfl
  have m3 := HB.out.cell 3 _ rfl
  have m4 := HB.out.cell 4 _ rfl
  have m5 := HB.out.cell 5 _ rfl
  have m6 := HB.out.cell 6 _ rfl
  have m7 := HB.out.cell 7 _ rfl
  have ml := HB.out.lt
  go_wp2_with fail
  with_reducible refine (HCH.out _ (by exact HM.out.keeps HK.out)).mono ?_
  rintro ee w2 ⟨rfl, hk1⟩
  replace HB := Lib.hid (HB.out.keeps hk1)
  replace HK := Lib.hid (HK.out.trans hk1)
  clear hk1 HCH m0 m1 m2 m3 m4 m5 m6 m7 ml
  have m0 := HB.out.cell 0 _ rfl
  have m1 := HB.out.cell 1 _ rfl
  have m2 := HB.out.cell 2 _ rfl
  have m3 := HB.out.cell 3 _ rfl
  have m4 := HB.out.cell 4 _ rfl
  have m5 := HB.out.cell 5 _ rfl
  have m6 := HB.out.cell 6 _ rfl
  have m7 := HB.out.cell 7 _ rfl
  have ml := HB.out.lt
  cases O
  · simp only [cond_false]
    clear HP HMR HN0
    go_wp2_with fail
    with_reducible refine (begun7_any _).mono ?_
    rintro ee w3 ⟨rfl, hk1⟩
    replace HK := Lib.hid (HK.out.trans hk1)
    clear hk1 m0 m1 m2 m3 m4 m5 m6 m7 ml
    go_wp2_with fail
    go_ret
    exact ⟨rfl, HK.out⟩
  have hn := HN0.out (by first | rfl | trivial)
  obtain ⟨s', hs'⟩ : ∃ s', s' = min (sl + (mo : Int)) 16777216 := ⟨_, rfl⟩
  obtain ⟨d', hd'⟩ : ∃ d', d' = max (dr - (le : Int)) 0 := ⟨_, rfl⟩
  have hsb1 : sl ≤ s' := by omega
  have hsb2 : s' ≤ 16777216 := by omega
  have hdb1 : 0 ≤ d' := by omega
  have hdb2 : d' ≤ dr := by omega
  have f1 : IntKind.i64.wrap (mo : Int) = (mo : Int) := by simp [IntKind.wrap, IntKind.bits, IntKind.signed]; omega
  have f2 : IntKind.i64.wrap (le : Int) = (le : Int) := by simp [IntKind.wrap, IntKind.bits, IntKind.signed]; omega
  have f3 : IntKind.i64.wrap (sl + (mo : Int)) = sl + (mo : Int) := by simp [IntKind.wrap, IntKind.bits, IntKind.signed]; omega
  have f4 : IntKind.i64.wrap (dr - (le : Int)) = dr - (le : Int) := by simp [IntKind.wrap, IntKind.bits, IntKind.signed]; omega
  have f5 : (if 16777216 < sl + (mo : Int) then 16777216 else sl + (mo : Int)) = s' := by split <;> omega
  have f6 : (if dr - (le : Int) < 0 then 0 else dr - (le : Int)) = d' := by split <;> omega
  have f7 : min (sl + (mo : Int)) 16777216 = s' := hs'.symm
  have f8 : max (dr - (le : Int)) 0 = d' := hd'.symm
  obtain ⟨hok, hmu⟩ := HMR.out (by first | rfl | trivial) s' d' hsb1 hsb2 hdb1 hdb2
  have HOK2 := Lib.hid hok
  clear HMR HN0 hok hs' hd'
  simp only [cond_true]
  simp only [cond_true] at HP
  have HXM : Hid (∀ w', Keeps w w' → RMedl.In ⟨no, s', ga, wi, d', de, .slice ca cs.length cc, cs, ma, mn, mc, xs⟩ w') := Lib.hid (fun w' hk => ⟨HM.out.c.keeps hk, HM.out.m.keeps hk⟩)
  have HP2 : Hid (∀ w', RMedl.In ⟨no, s', ga, wi, d', de, .slice ca cs.length cc, cs, ma, mn, mc, xs⟩ w' → Calls Try.prog 22 #[.agg #[.int .i64 no, .int .i64 s', .int .i64 ga, .int .i64 wi, .int .i64 d', .int .i64 de, .slice ca cs.length cc, .slice ma mn mc]] w' fun e w'' => e = .returned (.tuple #[.int .i64 (14 * (no * d') + 8), .int .i64 0]) ∧ Keeps w' w'') := Lib.hid (fun w' hi => by
    have h := prec_any _ w' hi
    unfold precRes at h
    rw [HOK2.out] at h
    exact h)
  have HC2 : Hid (∀ w', RMedl.In ⟨no, s', ga, wi, d', de, .slice ca cs.length cc, cs, ma, mn, mc, xs⟩ w' → Calls Try.prog 21 #[.agg #[.int .i64 no, .int .i64 s', .int .i64 ga, .int .i64 wi, .int .i64 d', .int .i64 de, .slice ca cs.length cc, .slice ma mn mc]] w' fun e w'' => e = .returned (.int .i64 0) ∧ Keeps w' w'') := Lib.hid (fun w' hi => by
    have h := mcheck_any _ w' hi
    rw [medlErr_cond, HOK2.out] at h
    exact h)
  clear HOK2
  go_wp2_with fail
  have HX := Lib.hid (Box.new w2 25 #[.int .i64 no, .int .i64 s', .int .i64 ga, .int .i64 wi, .int .i64 d', .int .i64 de, .slice ca cs.length cc, .slice ma mn mc])
  replace HB := Lib.hid (HB.out.next (.cells #[.int .i64 no, .int .i64 s', .int .i64 ga, .int .i64 wi, .int .i64 d', .int .i64 de, .slice ca cs.length cc, .slice ma mn mc] 25))
  replace HK := Lib.hid (HK.out.alloc (.cells #[.int .i64 no, .int .i64 s', .int .i64 ga, .int .i64 wi, .int .i64 d', .int .i64 de, .slice ca cs.length cc, .slice ma mn mc] 25))
  with_reducible refine (HP.out _ (by exact HM.out.keeps HK.out)).mono ?_
  rintro ee w3 ⟨rfl, hk1⟩
  replace HX := Lib.hid (HX.out.keeps hk1)
  replace HB := Lib.hid (HB.out.keeps hk1)
  replace HK := Lib.hid (HK.out.trans hk1)
  clear hk1 HP m0 m1 m2 m3 m4 m5 m6 m7 ml
  have x0 := HX.out.cell 0 _ rfl
  have x1 := HX.out.cell 1 _ rfl
  have x2 := HX.out.cell 2 _ rfl
  have x3 := HX.out.cell 3 _ rfl
  have x4 := HX.out.cell 4 _ rfl
  have x5 := HX.out.cell 5 _ rfl
  have x6 := HX.out.cell 6 _ rfl
  have x7 := HX.out.cell 7 _ rfl
  have xl := HX.out.lt
  go_wp2_with fail
  with_reducible refine (HP2.out _ (by exact HXM.out _ HK.out)).mono ?_
  rintro ee w4 ⟨rfl, hk1⟩
  replace HX := Lib.hid (HX.out.keeps hk1)
  replace HB := Lib.hid (HB.out.keeps hk1)
  replace HK := Lib.hid (HK.out.trans hk1)
  clear hk1 HP2 x0 x1 x2 x3 x4 x5 x6 x7 xl
  have x0 := HX.out.cell 0 _ rfl
  have x1 := HX.out.cell 1 _ rfl
  have x2 := HX.out.cell 2 _ rfl
  have x3 := HX.out.cell 3 _ rfl
  have x4 := HX.out.cell 4 _ rfl
  have x5 := HX.out.cell 5 _ rfl
  have x6 := HX.out.cell 6 _ rfl
  have x7 := HX.out.cell 7 _ rfl
  have xl := HX.out.lt
  have hfin : decide (14 * (no * d') + 8 ≤ 14 * (no * dr) + 8) = true := by simp; omega
  have hfin2 : decide (no * d' ≤ no * dr) = true := by simp; omega
  go_wp2_with fail
  with_reducible refine (HC2.out _ (by exact HXM.out _ HK.out)).mono ?_
  rintro ee w5 ⟨rfl, hk1⟩
  replace HK := Lib.hid (HK.out.trans hk1)
  clear hk1 HC2 x0 x1 x2 x3 x4 x5 x6 x7 xl
  go_wp2_with fail
  go_ret
  exact ⟨rfl, HK.out⟩
end Go.Proofs.Ytmjodcackmjllaa
