/- The walk of GuardianOpens. -/
import Derived.Test.YtcophhdlcjemeaaM15
namespace Go.Proofs.Ytcophhdlcjemeaa
open Go.RowKit Go.Shelf
set_option linter.unusedVariables false
set_option linter.unusedSimpArgs false
attribute [local go_sem ↓ high] eqSpan
set_option maxRecDepth 100000 in
set_option maxHeartbeats 2000000 in
theorem guardianOpens_any (m : RMedl) (c : RClk) (off id pos : Int) (w : World) (hm : m.In w) (hc : c.In w) :
    Calls Try.prog 3 #[m.val, c.val, .int .i64 off, .int .i64 id, .int .i64 pos] w fun e w' => e = .returned (.bool true) ∧ Keeps w w' := by
  have HM := Lib.hid hm
  have HC := Lib.hid hc
  clear hm hc
  have H1 := Lib.hid (open_any m c off id pos)
  have H2 := Lib.hid (ropen_any m c off id pos)
  obtain ⟨⟨r1, r2, r3⟩, hR⟩ : ∃ R, R = openRes m c off id pos := ⟨_, rfl⟩
  rw [← hR] at H1 H2
  clear hR
  obtain ⟨ca, cc, hcv, hc1, hc2, hc3⟩ := HM.out.c.shape
  obtain ⟨da, dc, hdv, hd1, hd2, hd3⟩ := HC.out.d.shape
  clear hc3 hd3
  obtain ⟨no, sl, ga, wi, dr, de, cv, cs, ma, mn, mc, xs⟩ := m
  obtain ⟨st, so, dv, ds⟩ := c
  simp only at hcv hdv hc1 hd1
  subst hcv hdv
  have HK := Lib.hid (((Keeps.refl w).alloc (.cells #[.int .i64 no, .int .i64 sl, .int .i64 ga, .int .i64 wi, .int .i64 dr, .int .i64 de, .slice ca cs.length cc, .slice ma mn mc] 25)).alloc (.cells #[.int .i64 st, .int .i64 so, .slice da ds.length dc] 28))
  have HB1 := Lib.hid ((Box.new w 25 #[.int .i64 no, .int .i64 sl, .int .i64 ga, .int .i64 wi, .int .i64 dr, .int .i64 de, .slice ca cs.length cc, .slice ma mn mc]).next (.cells #[.int .i64 st, .int .i64 so, .slice da ds.length dc] 28))
  have hb := Box.new (w.alloc (.cells #[.int .i64 no, .int .i64 sl, .int .i64 ga, .int .i64 wi, .int .i64 dr, .int .i64 de, .slice ca cs.length cc, .slice ma mn mc] 25)) 28 #[.int .i64 st, .int .i64 so, .slice da ds.length dc]
  rw [World.size_alloc] at hb
  have HB2 := Lib.hid hb
  clear hb
  show Calls Try.prog 3 #[.agg #[.int .i64 no, .int .i64 sl, .int .i64 ga, .int .i64 wi, .int .i64 dr, .int .i64 de, .slice ca cs.length cc, .slice ma mn mc], .agg #[.int .i64 st, .int .i64 so, .slice da ds.length dc], .int .i64 off, .int .i64 id, .int .i64 pos] w _
  go_enter Try.func3, Try.ntmps3
  go_wp2_with fail
  with_reducible refine (H1.out _ (by exact HM.out.keeps HK.out) (by exact HC.out.keeps HK.out)).mono ?_
  rintro e w1 ⟨rfl, hk1⟩
  replace HK := Lib.hid (HK.out.trans hk1)
  replace HB1 := Lib.hid (HB1.out.keeps hk1)
  replace HB2 := Lib.hid (HB2.out.keeps hk1)
  clear hk1 H1
  have m0 := HB1.out.cell 0 _ rfl
  have m1 := HB1.out.cell 1 _ rfl
  have m2 := HB1.out.cell 2 _ rfl
  have m3 := HB1.out.cell 3 _ rfl
  have m4 := HB1.out.cell 4 _ rfl
  have m5 := HB1.out.cell 5 _ rfl
  have m6 := HB1.out.cell 6 _ rfl
  have m7 := HB1.out.cell 7 _ rfl
  have ml := HB1.out.lt
  have k0 := HB2.out.cell 0 _ rfl
  have k1 := HB2.out.cell 1 _ rfl
  have k2 := HB2.out.cell 2 _ rfl
  have kl := HB2.out.lt
  go_wp2_with fail
  with_reducible refine (H2.out _ (by exact HM.out.keeps (HK.out.alloc _)) (by exact HC.out.keeps (HK.out.alloc _))).mono ?_
  rintro e w2 ⟨rfl, hk2⟩
  have HA := Lib.hid ((Box.new w1 30 #[.int .i64 r1, .int .i64 r2]).keeps hk2)
  replace HK := Lib.hid ((HK.out.alloc _).trans hk2)
  clear hk2 H2
  clear m0 m1 m2 m3 m4 m5 m6 m7 ml k0 k1 k2 kl
  go_wp2_with fail
  have HX := Lib.hid (Box.new w2 30 #[.int .i64 r1, .int .i64 r2])
  replace HA := Lib.hid (HA.out.next (.cells #[.int .i64 r1, .int .i64 r2] 30))
  replace HK := Lib.hid (HK.out.alloc (.cells #[.int .i64 r1, .int .i64 r2] 30))
  with_reducible refine (begun20_any _).mono ?_
  rintro e w3 ⟨rfl, hk3⟩
  replace HA := Lib.hid (HA.out.keeps hk3)
  replace HX := Lib.hid (HX.out.keeps hk3)
  replace HK := Lib.hid (HK.out.trans hk3)
  clear hk3
  have s0 := HA.out.cell 0 _ rfl
  have s1 := HA.out.cell 1 _ rfl
  have sl' := HA.out.lt
  have x0 := HX.out.cell 0 _ rfl
  have x1 := HX.out.cell 1 _ rfl
  have xl' := HX.out.lt
  go_wp2_with fail
  go_ret
  exact ⟨rfl, HK.out⟩
end Go.Proofs.Ytcophhdlcjemeaa
