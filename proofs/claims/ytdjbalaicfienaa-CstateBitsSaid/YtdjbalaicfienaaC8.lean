/- The walk of CstateBits. -/
import Derived.Test.YtdjbalaicfienaaC7
import Derived.Test.YtdjbalaicfienaaLater
namespace Go.Proofs.Ytdjbalaicfienaa
open Go.RowKit
set_option linter.unusedVariables false
set_option linter.unusedSimpArgs false

set_option maxHeartbeats 2000000 in
set_option maxRecDepth 100000 in
theorem cstateBits_any (c : CS) (nn : Int) (x : RB) (w : World) (hx : x.In w) :
    Calls Try.prog 3 #[c.val, .int .i64 nn, x.val] w fun e w' => e = .returned (.bool true) ∧ Keeps w w' := by
  have HX := Lib.hid hx
  clear hx
  obtain ⟨n, a, len, cap, l⟩ := x
  obtain ⟨ct, cp, cm, cx, cb⟩ := c
  show Calls Try.prog 3 #[.agg #[.int .i64 ct, .int .i64 cp, .int .i64 cm, .int .i64 cx, .int .i64 cb], .int .i64 nn, .agg #[.int .i64 n, .slice a len cap]] w _
  have HK := Lib.hid (((Keeps.refl w).alloc (.cells #[.int .i64 ct, .int .i64 cp, .int .i64 cm, .int .i64 cx, .int .i64 cb] 23)).alloc (.cells #[.int .i64 n, .slice a len cap] 26))
  have ha := ((Box.new w 23 #[.int .i64 ct, .int .i64 cp, .int .i64 cm, .int .i64 cx, .int .i64 cb]).next (.cells #[.int .i64 n, .slice a len cap] 26))
  have HA := Lib.hid ha
  clear ha
  have hb := (Box.new (w.alloc (.cells #[.int .i64 ct, .int .i64 cp, .int .i64 cm, .int .i64 cx, .int .i64 cb] 23)) 26 #[.int .i64 n, .slice a len cap])
  rw [World.size_alloc] at hb
  have HB := Lib.hid hb
  clear hb
  obtain ⟨r1, hr1⟩ : ∃ r, r = cbitsRes ⟨ct, cp, cm, cx, cb⟩ := ⟨_, rfl⟩
  obtain ⟨r2, hr2⟩ : ∃ r, r = cparseRes ⟨n, a, len, cap, l⟩ := ⟨_, rfl⟩
  have HR1 := Lib.hid hr1
  have HR2 := Lib.hid hr2
  clear hr1 hr2
  obtain ⟨⟨t1, p1, m1, x1, b1⟩, e2⟩ := r2
  go_enter Try.func3, Try.ntmps3
  go_wp2_with fail
  with_reducible refine (cbits_any ⟨ct, cp, cm, cx, cb⟩ _).mono ?_
  rw [← HR1.out]
  rintro e w1 ⟨y, rfl, hy, -, hk1⟩
  obtain ⟨n1, a1, len1, cap1, l1⟩ := y
  have HY1 := Lib.hid hy
  clear hy
  have hkk := hk1
  replace HK := Lib.hid (HK.out.trans hkk)
  replace HA := Lib.hid (HA.out.keeps hkk)
  replace HB := Lib.hid (HB.out.keeps hkk)
  clear hkk hk1
  have ha0 := HA.out.cell 0 _ rfl
  have ha1 := HA.out.cell 1 _ rfl
  have ha2 := HA.out.cell 2 _ rfl
  have ha3 := HA.out.cell 3 _ rfl
  have ha4 := HA.out.cell 4 _ rfl
  have hal := HA.out.lt
  have hb0 := HB.out.cell 0 _ rfl
  have hb1 := HB.out.cell 1 _ rfl
  have hbl := HB.out.lt
  go_wp2_with fail
  with_reducible refine (rcbits_any ⟨ct, cp, cm, cx, cb⟩ _).mono ?_
  rw [← HR1.out]
  rintro e w2 ⟨y, rfl, hy, -, hk2⟩
  obtain ⟨n2, a2, len2, cap2, l2⟩ := y
  have HY2 := Lib.hid hy
  clear hy
  clear ha0 ha1 ha2 ha3 ha4 hal hb0 hb1 hbl
  have hkk := ((Keeps.refl w1).alloc (.cells #[.int .i64 n1, .slice a1 len1 cap1] 26)).trans hk2
  have HC := Lib.hid ((Box.new w1 26 #[.int .i64 n1, .slice a1 len1 cap1]).keeps hk2)
  replace HK := Lib.hid (HK.out.trans hkk)
  replace HA := Lib.hid (HA.out.keeps hkk)
  replace HB := Lib.hid (HB.out.keeps hkk)
  replace HY1 := Lib.hid (HY1.out.keeps hkk)
  clear hkk hk2
  have ha0 := HA.out.cell 0 _ rfl
  have ha1 := HA.out.cell 1 _ rfl
  have ha2 := HA.out.cell 2 _ rfl
  have ha3 := HA.out.cell 3 _ rfl
  have ha4 := HA.out.cell 4 _ rfl
  have hal := HA.out.lt
  have hb0 := HB.out.cell 0 _ rfl
  have hb1 := HB.out.cell 1 _ rfl
  have hbl := HB.out.lt
  have hc0 := HC.out.cell 0 _ rfl
  have hc1 := HC.out.cell 1 _ rfl
  have hcl := HC.out.lt
  go_wp2_with fail
  with_reducible refine (cparse_any ⟨n, a, len, cap, l⟩ _ (HX.out.keeps (HK.out.alloc _))).mono ?_
  rw [← HR2.out]
  rintro e w3 ⟨rfl, hk3⟩
  clear ha0 ha1 ha2 ha3 ha4 hal hb0 hb1 hbl hc0 hc1 hcl
  have hkk := ((Keeps.refl w2).alloc (.cells #[.int .i64 n2, .slice a2 len2 cap2] 26)).trans hk3
  have HD := Lib.hid ((Box.new w2 26 #[.int .i64 n2, .slice a2 len2 cap2]).keeps hk3)
  replace HK := Lib.hid (HK.out.trans hkk)
  replace HA := Lib.hid (HA.out.keeps hkk)
  replace HB := Lib.hid (HB.out.keeps hkk)
  replace HC := Lib.hid (HC.out.keeps hkk)
  replace HY1 := Lib.hid (HY1.out.keeps hkk)
  replace HY2 := Lib.hid (HY2.out.keeps hkk)
  clear hkk hk3
  have ha0 := HA.out.cell 0 _ rfl
  have ha1 := HA.out.cell 1 _ rfl
  have ha2 := HA.out.cell 2 _ rfl
  have ha3 := HA.out.cell 3 _ rfl
  have ha4 := HA.out.cell 4 _ rfl
  have hal := HA.out.lt
  have hb0 := HB.out.cell 0 _ rfl
  have hb1 := HB.out.cell 1 _ rfl
  have hbl := HB.out.lt
  have hc0 := HC.out.cell 0 _ rfl
  have hc1 := HC.out.cell 1 _ rfl
  have hcl := HC.out.lt
  have hd0 := HD.out.cell 0 _ rfl
  have hd1 := HD.out.cell 1 _ rfl
  have hdl := HD.out.lt
  go_wp2_with fail
  with_reducible refine (rcparse_any ⟨n, a, len, cap, l⟩ _ (HX.out.keeps (HK.out.alloc _))).mono ?_
  rw [← HR2.out]
  rintro e w4 ⟨rfl, hk4⟩
  clear ha0 ha1 ha2 ha3 ha4 hal hb0 hb1 hbl hc0 hc1 hcl hd0 hd1 hdl
  have hkk := ((Keeps.refl w3).alloc (.cells #[.int .i64 t1, .int .i64 p1, .int .i64 m1, .int .i64 x1, .int .i64 b1] 23)).trans hk4
  have HE := Lib.hid ((Box.new w3 23 #[.int .i64 t1, .int .i64 p1, .int .i64 m1, .int .i64 x1, .int .i64 b1]).keeps hk4)
  replace HK := Lib.hid (HK.out.trans hkk)
  replace HA := Lib.hid (HA.out.keeps hkk)
  replace HB := Lib.hid (HB.out.keeps hkk)
  replace HC := Lib.hid (HC.out.keeps hkk)
  replace HD := Lib.hid (HD.out.keeps hkk)
  replace HY1 := Lib.hid (HY1.out.keeps hkk)
  replace HY2 := Lib.hid (HY2.out.keeps hkk)
  clear hkk hk4
  have ha0 := HA.out.cell 0 _ rfl
  have ha1 := HA.out.cell 1 _ rfl
  have ha2 := HA.out.cell 2 _ rfl
  have ha3 := HA.out.cell 3 _ rfl
  have ha4 := HA.out.cell 4 _ rfl
  have hal := HA.out.lt
  have hb0 := HB.out.cell 0 _ rfl
  have hb1 := HB.out.cell 1 _ rfl
  have hbl := HB.out.lt
  have hc0 := HC.out.cell 0 _ rfl
  have hc1 := HC.out.cell 1 _ rfl
  have hcl := HC.out.lt
  have hd0 := HD.out.cell 0 _ rfl
  have hd1 := HD.out.cell 1 _ rfl
  have hdl := HD.out.lt
  have he0 := HE.out.cell 0 _ rfl
  have he1 := HE.out.cell 1 _ rfl
  have he2 := HE.out.cell 2 _ rfl
  have he3 := HE.out.cell 3 _ rfl
  have he4 := HE.out.cell 4 _ rfl
  have hel := HE.out.lt
  clear ha0 ha1 ha2 ha3 ha4 hal hb0 hb1 hbl hc0 hc1 hcl hd0 hd1 hdl he0 he1 he2 he3 he4 hel
  have HFA := Lib.hid (Box.new w4 23 #[.int .i64 t1, .int .i64 p1, .int .i64 m1, .int .i64 x1, .int .i64 b1])
  have HAA := Lib.hid (HA.out.next (.cells #[.int .i64 t1, .int .i64 p1, .int .i64 m1, .int .i64 x1, .int .i64 b1] 23))
  have HBA := Lib.hid (HB.out.next (.cells #[.int .i64 t1, .int .i64 p1, .int .i64 m1, .int .i64 x1, .int .i64 b1] 23))
  have HCA := Lib.hid (HC.out.next (.cells #[.int .i64 t1, .int .i64 p1, .int .i64 m1, .int .i64 x1, .int .i64 b1] 23))
  have HDA := Lib.hid (HD.out.next (.cells #[.int .i64 t1, .int .i64 p1, .int .i64 m1, .int .i64 x1, .int .i64 b1] 23))
  have HEA := Lib.hid (HE.out.next (.cells #[.int .i64 t1, .int .i64 p1, .int .i64 m1, .int .i64 x1, .int .i64 b1] 23))
  have HKA := Lib.hid (HK.out.alloc (.cells #[.int .i64 t1, .int .i64 p1, .int .i64 m1, .int .i64 x1, .int .i64 b1] 23))
  have HY1A := Lib.hid (HY1.out.keeps ((Keeps.refl w4).alloc (.cells #[.int .i64 t1, .int .i64 p1, .int .i64 m1, .int .i64 x1, .int .i64 b1] 23)))
  have HY2A := Lib.hid (HY2.out.keeps ((Keeps.refl w4).alloc (.cells #[.int .i64 t1, .int .i64 p1, .int .i64 m1, .int .i64 x1, .int .i64 b1] 23)))
  clear HA HB HC HD HE HK HY1 HY2
  go_wp2_with fail
  have c1 := HAA.out.later 0 _ rfl
  have c2 := HAA.out.later 1 _ rfl
  have c3 := HAA.out.later 2 _ rfl
  have c4 := HAA.out.later 3 _ rfl
  have c5 := HAA.out.later 4 _ rfl
  have c6 := HBA.out.later 0 _ rfl
  have c7 := HBA.out.later 1 _ rfl
  have c8 := HCA.out.later 0 _ rfl
  have c9 := HCA.out.later 1 _ rfl
  have c10 := HDA.out.later 0 _ rfl
  have c11 := HDA.out.later 1 _ rfl
  have c12 := HEA.out.later 0 _ rfl
  have c13 := HEA.out.later 1 _ rfl
  have c14 := HEA.out.later 2 _ rfl
  have c15 := HEA.out.later 3 _ rfl
  have c16 := HEA.out.later 4 _ rfl
  have c17 := HFA.out.later 0 _ rfl
  have c18 := HFA.out.later 1 _ rfl
  have c19 := HFA.out.later 2 _ rfl
  have c20 := HFA.out.later 3 _ rfl
  have c21 := HFA.out.later 4 _ rfl
  refine wp_region_later (by kernel_rfl) (by kernel_rfl) ?_
  repeat (go_big_quiet_step (first
    | (go_at_call 18; exact Later.calls _ (begun4_any _))
    | (go_at_call 19; exact Later.calls _ (ccheck_any ⟨ct, cp, cm, cx, cb⟩ nn _))
    | (go_at_call 20; exact Later.calls _ (rccheck_any ⟨ct, cp, cm, cx, cb⟩ nn _))
    | (go_at_call 21; with_reducible exact Later.calls _ (rsame_yes4 ⟨n1, a1, len1, cap1, l1⟩ ⟨n2, a2, len2, cap2, l2⟩ r1.1 _ (HY1A.out.keeps (Later.keeps _)) (HY2A.out.keeps (Later.keeps _))))))
  refine wpQuiet_nil ?_
  rintro _ ⟨k, rfl⟩
  have HKK := Lib.hid (HKA.out.trans k.keeps)
  clear c1 c2 c3 c4 c5 c6 c7 c8 c9 c10 c11 c12 c13 c14 c15 c16 c17 c18 c19 c20 c21
  go_wp2_with fail
  go_ret
  exact ⟨rfl, HKK.out⟩
end Go.Proofs.Ytdjbalaicfienaa
