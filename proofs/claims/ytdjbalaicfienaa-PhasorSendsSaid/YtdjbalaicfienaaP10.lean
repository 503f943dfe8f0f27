/- The walk of PhasorSends. -/
import Derived.Test.YtdjbalaicfienaaP9
namespace Go.Proofs.Ytdjbalaicfienaa
open Go.RowKit
set_option linter.unusedVariables false
set_option linter.unusedSimpArgs false
set_option maxRecDepth 100000 in
set_option maxHeartbeats 4000000 in
theorem phasorSends_any (x : RB) (amp n : Int) (w : World) (hx : x.In w) :
    Calls Try.prog 7 #[x.val, .int .i64 amp, .int .i64 n] w fun e w' => e = .returned (.bool true) ∧ Keeps w w' := by
  have HX := Lib.hid hx
  clear hx
  obtain ⟨⟨R, E⟩, hr⟩ : ∃ r, r = encRes x amp := ⟨_, rfl⟩
  have HR := Lib.hid hr
  clear hr
  obtain ⟨xn, a, len, cap, l⟩ := x
  show Calls Try.prog 7 #[.agg #[.int .i64 xn, .slice a len cap], .int .i64 amp, .int .i64 n] w _
  have HB := Lib.hid (Box.new w 26 #[.int .i64 xn, .slice a len cap])
  have HK := Lib.hid ((Keeps.refl w).alloc (.cells #[.int .i64 xn, .slice a len cap] 26))
  go_enter Try.func7, Try.ntmps7
  go_wp2_with fail
  with_reducible refine (encode_any ⟨xn, a, len, cap, l⟩ amp _ (by exact HX.out.keeps HK.out)).mono ?_
  rw [← HR.out]
  rintro e w1 ⟨v1, rfl, ho1, hk1⟩
  obtain ⟨a1, c1, rfl, hr1, -⟩ := ho1.shape
  simp only at hr1
  have HR1 := Lib.hid hr1
  replace HB := Lib.hid (HB.out.keeps hk1)
  replace HK := Lib.hid (HK.out.trans hk1)
  clear ho1 hr1 hk1
  have b0 := HB.out.cell 0 _ rfl
  have b1 := HB.out.cell 1 _ rfl
  have bl := HB.out.lt
  go_wp2_with fail
  with_reducible refine (rencode_any ⟨xn, a, len, cap, l⟩ amp _ (by exact HX.out.keeps HK.out)).mono ?_
  rw [← HR.out]
  rintro e w2 ⟨v2, rfl, ho2, hk2⟩
  obtain ⟨a2, c2, rfl, hr2, -⟩ := ho2.shape
  simp only at hr2
  have HR2 := Lib.hid hr2
  replace HR1 := Lib.hid (HR1.out.keeps hk2)
  replace HK := Lib.hid (HK.out.trans hk2)
  clear ho2 hr2 hk2 b0 b1 bl HB
  go_wp2_with fail
  with_reducible refine (begun3_any _).mono ?_
  rintro e w3 ⟨rfl, hk3⟩
  replace HR1 := Lib.hid (HR1.out.keeps hk3)
  replace HR2 := Lib.hid (HR2.out.keeps hk3)
  replace HK := Lib.hid (HK.out.trans hk3)
  clear hk3
  go_wp2_with fail
  with_reducible refine (same_yes3 a1 a2 R.length c1 c2 R _ (by exact HR1.out) (by exact HR2.out)).mono ?_
  rintro e w4 ⟨rfl, hk4⟩
  replace HK := Lib.hid (HK.out.trans hk4)
  clear hk4 HR1 HR2
  go_wp2_with fail
  with_reducible refine (air_any n _).mono ?_
  rintro e w5 ⟨rfl, rfl⟩
  go_wp2_with fail
  with_reducible refine (rair_any n _).mono ?_
  rintro e w6 ⟨rfl, rfl⟩
  go_wp2_with fail
  with_reducible refine (preamble03_any _).mono ?_
  rintro e w7 ⟨v7, rfl, ho7, hk7⟩
  obtain ⟨a7, c7, rfl, hr7, -⟩ := ho7.shape
  have HR7 : Hid (SRow w7 a7 8 c7 preS) := Lib.hid hr7
  replace HK := Lib.hid (HK.out.trans hk7)
  clear ho7 hr7 hk7
  rw [show preS.length = 8 from rfl]
  go_wp2_with fail
  with_reducible refine (rpreamble_any _).mono ?_
  rintro e w8 ⟨a8, rfl, hr8, hk8⟩
  have HR8 := Lib.hid hr8
  replace HR7 := Lib.hid (HR7.out.keeps hk8)
  replace HK := Lib.hid (HK.out.trans hk8)
  clear hr8 hk8
  go_wp2_with fail
  with_reducible refine (same_yes3 a7 a8 8 c7 8 preS _ (by exact HR7.out) (by exact HR8.out)).mono ?_
  rintro e w9 ⟨rfl, hk9⟩
  replace HK := Lib.hid (HK.out.trans hk9)
  clear hk9
  go_wp2_with fail
  go_ret
  exact ⟨rfl, HK.out⟩
end Go.Proofs.Ytdjbalaicfienaa
