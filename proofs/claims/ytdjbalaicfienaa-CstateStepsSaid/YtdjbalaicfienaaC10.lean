/- The walk of CstateBack. -/
import Derived.Test.YtdjbalaicfienaaC7
import Derived.Test.YtdjbalaicfienaaC9
import Derived.Test.YtdjbalaicfienaaLater
namespace Go.Proofs.Ytdjbalaicfienaa
open Go.RowKit
set_option linter.unusedVariables false
set_option linter.unusedSimpArgs false

theorem rsame_no4 (x y : RB) (bs cs : List Bool) (w : World) (hx : x.Is w bs) (hy : y.Is w cs) (h : bs ≠ cs) :
    Calls Try.prog 21 #[x.val, y.val] w fun e w' => e = .returned (.bool false) ∧ Keeps w w' := by
  have h2 := same_is x y bs cs w hx hy
  rw [decide_eq_false h] at h2
  exact h2
/-- are two states the same? -/
def csSame (a b : CS) : Bool := decide (a.t = b.t ∧ a.p = b.p ∧ a.m = b.m ∧ a.x = b.x ∧ a.b = b.b)
@[go_sem] theorem csSame_self (a : CS) : csSame a a = true := by simp [csSame]
theorem csSame_no {a b : CS} (h : a ≠ b) : csSame a b = false := by
  obtain ⟨t, p, m, x, c⟩ := a
  obtain ⟨t', p', m', x', c'⟩ := b
  simp only [ne_eq, CS.mk.injEq] at h
  exact decide_eq_false h
theorem eqCS (t p m x b t' p' m' x' b' : Int) (w : World) : (Op.equalIn 10000 23 (.agg #[.int .i64 t, .int .i64 p, .int .i64 m, .int .i64 x, .int .i64 b]) (.agg #[.int .i64 t', .int .i64 p', .int .i64 m', .int .i64 x', .int .i64 b'])).run Try.prog w = .ok (csSame ⟨t, p, m, x, b⟩ ⟨t', p', m', x', b'⟩) w := by
  have u3 := Try.underlying3
  have a3 := Try.isAgg3
  have z3 := Try.sizeOf3
  have hS : Try.prog.underlying 23 = some (.struct (Try.prog.fieldsOf 23)) := by kernel_rfl
  rw [show (10000 : Nat) = 9999 + 1 from rfl, run_equalIn_agg w 9999 23 _ _ hS (by kernel_rfl)]
  simp only [Program.fieldsOf, Try.underlying23]
  go_simp
  by_cases h1 : t = t' <;> by_cases h2 : p = p' <;> by_cases h3 : m = m' <;> by_cases h4 : x = x' <;> by_cases h5 : b = b' <;> simp [h1, h2, h3, h4, h5, csSame]
attribute [local go_sem ↓ high] eqCS

set_option maxHeartbeats 16000000 in
set_option maxRecDepth 100000 in
theorem cstateBack_any (ca cb : CS) (x : RB) (w : World) (hx : x.In w) :
    Calls Try.prog 4 #[ca.val, cb.val, x.val] w fun e w' => e = .returned (.bool true) ∧ Keeps w w' := by
  have HX := Lib.hid hx
  clear hx
  obtain ⟨n, a, len, cap, l⟩ := x
  obtain ⟨ta, pa, ma, xa, ba⟩ := ca
  obtain ⟨tb, pb, mb, xb, bb⟩ := cb
  show Calls Try.prog 4 #[.agg #[.int .i64 ta, .int .i64 pa, .int .i64 ma, .int .i64 xa, .int .i64 ba], .agg #[.int .i64 tb, .int .i64 pb, .int .i64 mb, .int .i64 xb, .int .i64 bb], .agg #[.int .i64 n, .slice a len cap]] w _
  have HK := Lib.hid ((((Keeps.refl w).alloc (.cells #[.int .i64 ta, .int .i64 pa, .int .i64 ma, .int .i64 xa, .int .i64 ba] 23)).alloc (.cells #[.int .i64 tb, .int .i64 pb, .int .i64 mb, .int .i64 xb, .int .i64 bb] 23)).alloc (.cells #[.int .i64 n, .slice a len cap] 26))
  have ha := (((Box.new w 23 #[.int .i64 ta, .int .i64 pa, .int .i64 ma, .int .i64 xa, .int .i64 ba]).next (.cells #[.int .i64 tb, .int .i64 pb, .int .i64 mb, .int .i64 xb, .int .i64 bb] 23)).next (.cells #[.int .i64 n, .slice a len cap] 26))
  have HA := Lib.hid ha
  clear ha
  have hb := ((Box.new (w.alloc (.cells #[.int .i64 ta, .int .i64 pa, .int .i64 ma, .int .i64 xa, .int .i64 ba] 23)) 23 #[.int .i64 tb, .int .i64 pb, .int .i64 mb, .int .i64 xb, .int .i64 bb]).next (.cells #[.int .i64 n, .slice a len cap] 26))
  rw [World.size_alloc] at hb
  have HB := Lib.hid hb
  clear hb
  have hl := (Box.new ((w.alloc (.cells #[.int .i64 ta, .int .i64 pa, .int .i64 ma, .int .i64 xa, .int .i64 ba] 23)).alloc (.cells #[.int .i64 tb, .int .i64 pb, .int .i64 mb, .int .i64 xb, .int .i64 bb] 23)) 26 #[.int .i64 n, .slice a len cap])
  rw [World.size_alloc, World.size_alloc] at hl
  have HL := Lib.hid hl
  clear hl
  obtain ⟨r2, hr2⟩ : ∃ r, r = cbitsRes ⟨tb, pb, mb, xb, bb⟩ := ⟨_, rfl⟩
  have HR2 := Lib.hid hr2
  clear hr2
  have HP := Lib.hid (cparse_cases ⟨n, a, len, cap, l⟩ HX.out)
  go_enter Try.func4, Try.ntmps4
  cases hca : csOk ⟨ta, pa, ma, xa, ba⟩ 8
  · have HCA := Lib.hid hca
    clear hca
    go_wp2_with fail
    with_reducible refine (cbits_any ⟨ta, pa, ma, xa, ba⟩ _).mono ?_
    rw [show cbitsRes ⟨ta, pa, ma, xa, ba⟩ = ([], 40) from by unfold cbitsRes; rw [HCA.out]; rfl]
    rintro e w1 ⟨y, rfl, hy, -, hk1⟩
    obtain ⟨n1, a1, len1, cap1, l1⟩ := y
    have HY1 := Lib.hid hy
    clear hy
    have hkk := hk1
    replace HK := Lib.hid (HK.out.trans hkk)
    replace HA := Lib.hid (HA.out.keeps hkk)
    replace HB := Lib.hid (HB.out.keeps hkk)
    replace HL := Lib.hid (HL.out.keeps hkk)
    clear hkk hk1
    have ha0 := HA.out.cell 0 _ rfl
    have ha1 := HA.out.cell 1 _ rfl
    have ha2 := HA.out.cell 2 _ rfl
    have ha3 := HA.out.cell 3 _ rfl
    have ha4 := HA.out.cell 4 _ rfl
    have hal := HA.out.lt
    have hb0 := HB.out.cell 0 _ rfl
    have hb1 := HB.out.cell 1 _ rfl
    have hb2 := HB.out.cell 2 _ rfl
    have hb3 := HB.out.cell 3 _ rfl
    have hb4 := HB.out.cell 4 _ rfl
    have hbl := HB.out.lt
    have hl0 := HL.out.cell 0 _ rfl
    have hl1 := HL.out.cell 1 _ rfl
    have hll := HL.out.lt
    go_wp2_with fail
    with_reducible refine (cbits_any ⟨tb, pb, mb, xb, bb⟩ _).mono ?_
    rw [← HR2.out]
    rintro e w2 ⟨y, rfl, hy, -, hk2⟩
    obtain ⟨n2, a2, len2, cap2, l2⟩ := y
    have HY2 := Lib.hid hy
    clear hy
    clear ha0 ha1 ha2 ha3 ha4 hal hb0 hb1 hb2 hb3 hb4 hbl hl0 hl1 hll
    have hkk := ((Keeps.refl w1).alloc (.cells #[.int .i64 n1, .slice a1 len1 cap1] 26)).trans hk2
    have HC := Lib.hid ((Box.new w1 26 #[.int .i64 n1, .slice a1 len1 cap1]).keeps hk2)
    replace HK := Lib.hid (HK.out.trans hkk)
    replace HA := Lib.hid (HA.out.keeps hkk)
    replace HB := Lib.hid (HB.out.keeps hkk)
    replace HL := Lib.hid (HL.out.keeps hkk)
    replace HY1 := Lib.hid (HY1.out.keeps hkk)
    clear hkk hk2
    have ha0 := HA.out.cell 0 _ rfl
    have ha1 := HA.out.cell 1 _ rfl
    have ha2 := HA.out.cell 2 _ rfl
    have ha3 := HA.out.cell 3 _ rfl
    have ha4 := HA.out.cell 4 _ rfl
    have hal := HA.out.lt
    have hb0 := HB.out.cell 0 _ rfl
    have hb1 := HB.out.cell 1 _ rfl
    have hb2 := HB.out.cell 2 _ rfl
    have hb3 := HB.out.cell 3 _ rfl
    have hb4 := HB.out.cell 4 _ rfl
    have hbl := HB.out.lt
    have hl0 := HL.out.cell 0 _ rfl
    have hl1 := HL.out.cell 1 _ rfl
    have hll := HL.out.lt
    have hc0 := HC.out.cell 0 _ rfl
    have hc1 := HC.out.cell 1 _ rfl
    have hcl := HC.out.lt
    go_wp2_with fail
    with_reducible refine (begun4_any _).mono ?_
    rintro e w3 ⟨rfl, hk3⟩
    clear ha0 ha1 ha2 ha3 ha4 hal hb0 hb1 hb2 hb3 hb4 hbl hl0 hl1 hll hc0 hc1 hcl
    have hkk := ((Keeps.refl w2).alloc (.cells #[.int .i64 n2, .slice a2 len2 cap2] 26)).trans hk3
    have HD := Lib.hid ((Box.new w2 26 #[.int .i64 n2, .slice a2 len2 cap2]).keeps hk3)
    replace HK := Lib.hid (HK.out.trans hkk)
    replace HA := Lib.hid (HA.out.keeps hkk)
    replace HB := Lib.hid (HB.out.keeps hkk)
    replace HL := Lib.hid (HL.out.keeps hkk)
    replace HC := Lib.hid (HC.out.keeps hkk)
    replace HY1 := Lib.hid (HY1.out.keeps hkk)
    replace HY2 := Lib.hid (HY2.out.keeps hkk)
    clear hkk hk3
    have ha0 := HA.out.cell 0 _ rfl
    have ha1 := HA.out.cell 1 _ rfl
    have ha2 := HA.out.cell 2 _ rfl
    have ha3 := HA.out.cell 3 _ rfl
    have ha4 := HA.out.cell 4 _ rfl
    have hal := HA.out.lt
    have hb0 := HB.out.cell 0 _ rfl
    have hb1 := HB.out.cell 1 _ rfl
    have hb2 := HB.out.cell 2 _ rfl
    have hb3 := HB.out.cell 3 _ rfl
    have hb4 := HB.out.cell 4 _ rfl
    have hbl := HB.out.lt
    have hl0 := HL.out.cell 0 _ rfl
    have hl1 := HL.out.cell 1 _ rfl
    have hll := HL.out.lt
    have hc0 := HC.out.cell 0 _ rfl
    have hc1 := HC.out.cell 1 _ rfl
    have hcl := HC.out.lt
    have hd0 := HD.out.cell 0 _ rfl
    have hd1 := HD.out.cell 1 _ rfl
    have hdl := HD.out.lt
    rcases HP.out with ⟨bs, hbs, hlen, hokl, hp⟩ | hp | hp
    · have HXS := Lib.hid hbs
      have HCL0 := Lib.hid hokl
      have HLE := Lib.hid hlen
      obtain ⟨⟨tq, pq, mq, xq, bq⟩, hq⟩ : ∃ q, q = csOf bs := ⟨_, rfl⟩
      rw [← hq] at hokl hp
      have HQ := Lib.hid hq
      have HCQ := Lib.hid hokl
      clear hbs hokl hlen hq
      go_wp2_with fail
      with_reducible refine (cparse_any ⟨n, a, len, cap, l⟩ _ (by exact HX.out.keeps HK.out)).mono ?_
      rw [hp]
      clear hp
      rintro e w5 ⟨rfl, hk5⟩
      clear ha0 ha1 ha2 ha3 ha4 hal hb0 hb1 hb2 hb3 hb4 hbl hl0 hl1 hll hc0 hc1 hcl hd0 hd1 hdl
      have hkk := hk5
      replace HK := Lib.hid (HK.out.trans hkk)
      replace HA := Lib.hid (HA.out.keeps hkk)
      replace HB := Lib.hid (HB.out.keeps hkk)
      replace HL := Lib.hid (HL.out.keeps hkk)
      replace HC := Lib.hid (HC.out.keeps hkk)
      replace HD := Lib.hid (HD.out.keeps hkk)
      replace HY1 := Lib.hid (HY1.out.keeps hkk)
      replace HY2 := Lib.hid (HY2.out.keeps hkk)
      clear hkk hk5
      have ha0 := HA.out.cell 0 _ rfl
      have ha1 := HA.out.cell 1 _ rfl
      have ha2 := HA.out.cell 2 _ rfl
      have ha3 := HA.out.cell 3 _ rfl
      have ha4 := HA.out.cell 4 _ rfl
      have hal := HA.out.lt
      have hb0 := HB.out.cell 0 _ rfl
      have hb1 := HB.out.cell 1 _ rfl
      have hb2 := HB.out.cell 2 _ rfl
      have hb3 := HB.out.cell 3 _ rfl
      have hb4 := HB.out.cell 4 _ rfl
      have hbl := HB.out.lt
      have hl0 := HL.out.cell 0 _ rfl
      have hl1 := HL.out.cell 1 _ rfl
      have hll := HL.out.lt
      have hc0 := HC.out.cell 0 _ rfl
      have hc1 := HC.out.cell 1 _ rfl
      have hcl := HC.out.lt
      have hd0 := HD.out.cell 0 _ rfl
      have hd1 := HD.out.cell 1 _ rfl
      have hdl := HD.out.lt
      go_wp2_with fail
      with_reducible refine (cbits_any ⟨tq, pq, mq, xq, bq⟩ _).mono ?_
      rw [show cbitsRes ⟨tq, pq, mq, xq, bq⟩ = (bs, 0) from by unfold cbitsRes; rw [HCQ.out, if_pos rfl, HQ.out, csBits_csOf HLE.out]]
      rintro e w6 ⟨y, rfl, hy, -, hk6⟩
      obtain ⟨n6, a6, len6, cap6, l6⟩ := y
      have HY6 := Lib.hid hy
      clear hy
      clear ha0 ha1 ha2 ha3 ha4 hal hb0 hb1 hb2 hb3 hb4 hbl hl0 hl1 hll hc0 hc1 hcl hd0 hd1 hdl
      have hkk := ((Keeps.refl w5).alloc (.cells #[.int .i64 tq, .int .i64 pq, .int .i64 mq, .int .i64 xq, .int .i64 bq] 23)).trans hk6
      have HQB := Lib.hid ((Box.new w5 23 #[.int .i64 tq, .int .i64 pq, .int .i64 mq, .int .i64 xq, .int .i64 bq]).keeps hk6)
      replace HK := Lib.hid (HK.out.trans hkk)
      replace HA := Lib.hid (HA.out.keeps hkk)
      replace HB := Lib.hid (HB.out.keeps hkk)
      replace HL := Lib.hid (HL.out.keeps hkk)
      replace HC := Lib.hid (HC.out.keeps hkk)
      replace HD := Lib.hid (HD.out.keeps hkk)
      replace HY1 := Lib.hid (HY1.out.keeps hkk)
      replace HY2 := Lib.hid (HY2.out.keeps hkk)
      clear hkk hk6
      have ha0 := HA.out.cell 0 _ rfl
      have ha1 := HA.out.cell 1 _ rfl
      have ha2 := HA.out.cell 2 _ rfl
      have ha3 := HA.out.cell 3 _ rfl
      have ha4 := HA.out.cell 4 _ rfl
      have hal := HA.out.lt
      have hb0 := HB.out.cell 0 _ rfl
      have hb1 := HB.out.cell 1 _ rfl
      have hb2 := HB.out.cell 2 _ rfl
      have hb3 := HB.out.cell 3 _ rfl
      have hb4 := HB.out.cell 4 _ rfl
      have hbl := HB.out.lt
      have hl0 := HL.out.cell 0 _ rfl
      have hl1 := HL.out.cell 1 _ rfl
      have hll := HL.out.lt
      have hc0 := HC.out.cell 0 _ rfl
      have hc1 := HC.out.cell 1 _ rfl
      have hcl := HC.out.lt
      have hd0 := HD.out.cell 0 _ rfl
      have hd1 := HD.out.cell 1 _ rfl
      have hdl := HD.out.lt
      have hqb0 := HQB.out.cell 0 _ rfl
      have hqb1 := HQB.out.cell 1 _ rfl
      have hqb2 := HQB.out.cell 2 _ rfl
      have hqb3 := HQB.out.cell 3 _ rfl
      have hqb4 := HQB.out.cell 4 _ rfl
      have hqbl := HQB.out.lt
      go_wp2_with fail
      with_reducible refine (rsame_yes4 ⟨n6, a6, len6, cap6, l6⟩ ⟨n, a, len, cap, l⟩ bs _ (by exact HY6.out.keeps ((Keeps.refl _).alloc _)) (by exact HXS.out.keeps (HK.out.alloc _))).mono ?_
      rintro e w7 ⟨rfl, hk7⟩
      clear ha0 ha1 ha2 ha3 ha4 hal hb0 hb1 hb2 hb3 hb4 hbl hl0 hl1 hll hc0 hc1 hcl hd0 hd1 hdl hqb0 hqb1 hqb2 hqb3 hqb4 hqbl
      have hkk := ((Keeps.refl w6).alloc (.cells #[.int .i64 n6, .slice a6 len6 cap6] 26)).trans hk7
      have HM := Lib.hid ((Box.new w6 26 #[.int .i64 n6, .slice a6 len6 cap6]).keeps hk7)
      replace HK := Lib.hid (HK.out.trans hkk)
      replace HA := Lib.hid (HA.out.keeps hkk)
      replace HB := Lib.hid (HB.out.keeps hkk)
      replace HL := Lib.hid (HL.out.keeps hkk)
      replace HC := Lib.hid (HC.out.keeps hkk)
      replace HD := Lib.hid (HD.out.keeps hkk)
      replace HQB := Lib.hid (HQB.out.keeps hkk)
      replace HY1 := Lib.hid (HY1.out.keeps hkk)
      replace HY2 := Lib.hid (HY2.out.keeps hkk)
      replace HY6 := Lib.hid (HY6.out.keeps hkk)
      clear hkk hk7
      have ha0 := HA.out.cell 0 _ rfl
      have ha1 := HA.out.cell 1 _ rfl
      have ha2 := HA.out.cell 2 _ rfl
      have ha3 := HA.out.cell 3 _ rfl
      have ha4 := HA.out.cell 4 _ rfl
      have hal := HA.out.lt
      have hb0 := HB.out.cell 0 _ rfl
      have hb1 := HB.out.cell 1 _ rfl
      have hb2 := HB.out.cell 2 _ rfl
      have hb3 := HB.out.cell 3 _ rfl
      have hb4 := HB.out.cell 4 _ rfl
      have hbl := HB.out.lt
      have hl0 := HL.out.cell 0 _ rfl
      have hl1 := HL.out.cell 1 _ rfl
      have hll := HL.out.lt
      have hc0 := HC.out.cell 0 _ rfl
      have hc1 := HC.out.cell 1 _ rfl
      have hcl := HC.out.lt
      have hd0 := HD.out.cell 0 _ rfl
      have hd1 := HD.out.cell 1 _ rfl
      have hdl := HD.out.lt
      have hqb0 := HQB.out.cell 0 _ rfl
      have hqb1 := HQB.out.cell 1 _ rfl
      have hqb2 := HQB.out.cell 2 _ rfl
      have hqb3 := HQB.out.cell 3 _ rfl
      have hqb4 := HQB.out.cell 4 _ rfl
      have hqbl := HQB.out.lt
      have hm0 := HM.out.cell 0 _ rfl
      have hm1 := HM.out.cell 1 _ rfl
      have hml := HM.out.lt
      go_wp2_with fail
      clear ha0 ha1 ha2 ha3 ha4 hal hb0 hb1 hb2 hb3 hb4 hbl hl0 hl1 hll hc0 hc1 hcl hd0 hd1 hdl hqb0 hqb1 hqb2 hqb3 hqb4 hqbl hm0 hm1 hml
      have c1 := HA.out.later 0 _ rfl
      have c2 := HA.out.later 1 _ rfl
      have c3 := HA.out.later 2 _ rfl
      have c4 := HA.out.later 3 _ rfl
      have c5 := HA.out.later 4 _ rfl
      have c6 := HB.out.later 0 _ rfl
      have c7 := HB.out.later 1 _ rfl
      have c8 := HB.out.later 2 _ rfl
      have c9 := HB.out.later 3 _ rfl
      have c10 := HB.out.later 4 _ rfl
      have c11 := HL.out.later 0 _ rfl
      have c12 := HL.out.later 1 _ rfl
      have c13 := HC.out.later 0 _ rfl
      have c14 := HC.out.later 1 _ rfl
      have c15 := HD.out.later 0 _ rfl
      have c16 := HD.out.later 1 _ rfl
      have c17 := HQB.out.later 0 _ rfl
      have c18 := HQB.out.later 1 _ rfl
      have c19 := HQB.out.later 2 _ rfl
      have c20 := HQB.out.later 3 _ rfl
      have c21 := HQB.out.later 4 _ rfl
      have c22 := HM.out.later 0 _ rfl
      have c23 := HM.out.later 1 _ rfl
      refine wp_region_later (by kernel_rfl) (by kernel_rfl) ?_
      repeat (go_big_quiet_step (fail))
      refine wpQuiet_nil ?_
      rintro _ ⟨k, rfl⟩
      have HKK := Lib.hid (HK.out.trans k.keeps)
      clear c1 c2 c3 c4 c5 c6 c7 c8 c9 c10 c11 c12 c13 c14 c15 c16 c17 c18 c19 c20 c21 c22 c23
      go_wp2_with fail
      go_ret
      exact ⟨rfl, HKK.out⟩
    · go_wp2_with fail
      with_reducible refine (cparse_any ⟨n, a, len, cap, l⟩ _ (by exact HX.out.keeps HK.out)).mono ?_
      rw [hp]
      clear hp
      rintro e w5 ⟨rfl, hk5⟩
      simp only [CS.zero]
      clear ha0 ha1 ha2 ha3 ha4 hal hb0 hb1 hb2 hb3 hb4 hbl hl0 hl1 hll hc0 hc1 hcl hd0 hd1 hdl
      have hkk := hk5
      replace HK := Lib.hid (HK.out.trans hkk)
      replace HA := Lib.hid (HA.out.keeps hkk)
      replace HB := Lib.hid (HB.out.keeps hkk)
      replace HL := Lib.hid (HL.out.keeps hkk)
      replace HC := Lib.hid (HC.out.keeps hkk)
      replace HD := Lib.hid (HD.out.keeps hkk)
      replace HY1 := Lib.hid (HY1.out.keeps hkk)
      replace HY2 := Lib.hid (HY2.out.keeps hkk)
      clear hkk hk5
      have ha0 := HA.out.cell 0 _ rfl
      have ha1 := HA.out.cell 1 _ rfl
      have ha2 := HA.out.cell 2 _ rfl
      have ha3 := HA.out.cell 3 _ rfl
      have ha4 := HA.out.cell 4 _ rfl
      have hal := HA.out.lt
      have hb0 := HB.out.cell 0 _ rfl
      have hb1 := HB.out.cell 1 _ rfl
      have hb2 := HB.out.cell 2 _ rfl
      have hb3 := HB.out.cell 3 _ rfl
      have hb4 := HB.out.cell 4 _ rfl
      have hbl := HB.out.lt
      have hl0 := HL.out.cell 0 _ rfl
      have hl1 := HL.out.cell 1 _ rfl
      have hll := HL.out.lt
      have hc0 := HC.out.cell 0 _ rfl
      have hc1 := HC.out.cell 1 _ rfl
      have hcl := HC.out.lt
      have hd0 := HD.out.cell 0 _ rfl
      have hd1 := HD.out.cell 1 _ rfl
      have hdl := HD.out.lt
      clear ha0 ha1 ha2 ha3 ha4 hal hb0 hb1 hb2 hb3 hb4 hbl hl0 hl1 hll hc0 hc1 hcl hd0 hd1 hdl
      have hkk := (Keeps.refl w5).alloc (.cells #[.int .i64 0, .int .i64 0, .int .i64 0, .int .i64 0, .int .i64 0] 23)
      have HQB := Lib.hid (Box.new w5 23 #[.int .i64 0, .int .i64 0, .int .i64 0, .int .i64 0, .int .i64 0])
      replace HK := Lib.hid (HK.out.trans hkk)
      replace HA := Lib.hid (HA.out.keeps hkk)
      replace HB := Lib.hid (HB.out.keeps hkk)
      replace HL := Lib.hid (HL.out.keeps hkk)
      replace HC := Lib.hid (HC.out.keeps hkk)
      replace HD := Lib.hid (HD.out.keeps hkk)
      replace HY1 := Lib.hid (HY1.out.keeps hkk)
      replace HY2 := Lib.hid (HY2.out.keeps hkk)
      clear hkk
      have ha0 := HA.out.cell 0 _ rfl
      have ha1 := HA.out.cell 1 _ rfl
      have ha2 := HA.out.cell 2 _ rfl
      have ha3 := HA.out.cell 3 _ rfl
      have ha4 := HA.out.cell 4 _ rfl
      have hal := HA.out.lt
      have hb0 := HB.out.cell 0 _ rfl
      have hb1 := HB.out.cell 1 _ rfl
      have hb2 := HB.out.cell 2 _ rfl
      have hb3 := HB.out.cell 3 _ rfl
      have hb4 := HB.out.cell 4 _ rfl
      have hbl := HB.out.lt
      have hl0 := HL.out.cell 0 _ rfl
      have hl1 := HL.out.cell 1 _ rfl
      have hll := HL.out.lt
      have hc0 := HC.out.cell 0 _ rfl
      have hc1 := HC.out.cell 1 _ rfl
      have hcl := HC.out.lt
      have hd0 := HD.out.cell 0 _ rfl
      have hd1 := HD.out.cell 1 _ rfl
      have hdl := HD.out.lt
      have hqb0 := HQB.out.cell 0 _ rfl
      have hqb1 := HQB.out.cell 1 _ rfl
      have hqb2 := HQB.out.cell 2 _ rfl
      have hqb3 := HQB.out.cell 3 _ rfl
      have hqb4 := HQB.out.cell 4 _ rfl
      have hqbl := HQB.out.lt
      go_wp2_with fail
      clear ha0 ha1 ha2 ha3 ha4 hal hb0 hb1 hb2 hb3 hb4 hbl hl0 hl1 hll hc0 hc1 hcl hd0 hd1 hdl hqb0 hqb1 hqb2 hqb3 hqb4 hqbl
      have c1 := HA.out.later 0 _ rfl
      have c2 := HA.out.later 1 _ rfl
      have c3 := HA.out.later 2 _ rfl
      have c4 := HA.out.later 3 _ rfl
      have c5 := HA.out.later 4 _ rfl
      have c6 := HB.out.later 0 _ rfl
      have c7 := HB.out.later 1 _ rfl
      have c8 := HB.out.later 2 _ rfl
      have c9 := HB.out.later 3 _ rfl
      have c10 := HB.out.later 4 _ rfl
      have c11 := HL.out.later 0 _ rfl
      have c12 := HL.out.later 1 _ rfl
      have c13 := HC.out.later 0 _ rfl
      have c14 := HC.out.later 1 _ rfl
      have c15 := HD.out.later 0 _ rfl
      have c16 := HD.out.later 1 _ rfl
      have c17 := HQB.out.later 0 _ rfl
      have c18 := HQB.out.later 1 _ rfl
      have c19 := HQB.out.later 2 _ rfl
      have c20 := HQB.out.later 3 _ rfl
      have c21 := HQB.out.later 4 _ rfl
      refine wp_region_later (by kernel_rfl) (by kernel_rfl) ?_
      repeat (go_big_quiet_step (fail))
      refine wpQuiet_nil ?_
      rintro _ ⟨k, rfl⟩
      have HKK := Lib.hid (HK.out.trans k.keeps)
      clear c1 c2 c3 c4 c5 c6 c7 c8 c9 c10 c11 c12 c13 c14 c15 c16 c17 c18 c19 c20 c21
      go_wp2_with fail
      go_ret
      exact ⟨rfl, HKK.out⟩
    · go_wp2_with fail
      with_reducible refine (cparse_any ⟨n, a, len, cap, l⟩ _ (by exact HX.out.keeps HK.out)).mono ?_
      rw [hp]
      clear hp
      rintro e w5 ⟨rfl, hk5⟩
      simp only [CS.zero]
      clear ha0 ha1 ha2 ha3 ha4 hal hb0 hb1 hb2 hb3 hb4 hbl hl0 hl1 hll hc0 hc1 hcl hd0 hd1 hdl
      have hkk := hk5
      replace HK := Lib.hid (HK.out.trans hkk)
      replace HA := Lib.hid (HA.out.keeps hkk)
      replace HB := Lib.hid (HB.out.keeps hkk)
      replace HL := Lib.hid (HL.out.keeps hkk)
      replace HC := Lib.hid (HC.out.keeps hkk)
      replace HD := Lib.hid (HD.out.keeps hkk)
      replace HY1 := Lib.hid (HY1.out.keeps hkk)
      replace HY2 := Lib.hid (HY2.out.keeps hkk)
      clear hkk hk5
      have ha0 := HA.out.cell 0 _ rfl
      have ha1 := HA.out.cell 1 _ rfl
      have ha2 := HA.out.cell 2 _ rfl
      have ha3 := HA.out.cell 3 _ rfl
      have ha4 := HA.out.cell 4 _ rfl
      have hal := HA.out.lt
      have hb0 := HB.out.cell 0 _ rfl
      have hb1 := HB.out.cell 1 _ rfl
      have hb2 := HB.out.cell 2 _ rfl
      have hb3 := HB.out.cell 3 _ rfl
      have hb4 := HB.out.cell 4 _ rfl
      have hbl := HB.out.lt
      have hl0 := HL.out.cell 0 _ rfl
      have hl1 := HL.out.cell 1 _ rfl
      have hll := HL.out.lt
      have hc0 := HC.out.cell 0 _ rfl
      have hc1 := HC.out.cell 1 _ rfl
      have hcl := HC.out.lt
      have hd0 := HD.out.cell 0 _ rfl
      have hd1 := HD.out.cell 1 _ rfl
      have hdl := HD.out.lt
      clear ha0 ha1 ha2 ha3 ha4 hal hb0 hb1 hb2 hb3 hb4 hbl hl0 hl1 hll hc0 hc1 hcl hd0 hd1 hdl
      have hkk := (Keeps.refl w5).alloc (.cells #[.int .i64 0, .int .i64 0, .int .i64 0, .int .i64 0, .int .i64 0] 23)
      have HQB := Lib.hid (Box.new w5 23 #[.int .i64 0, .int .i64 0, .int .i64 0, .int .i64 0, .int .i64 0])
      replace HK := Lib.hid (HK.out.trans hkk)
      replace HA := Lib.hid (HA.out.keeps hkk)
      replace HB := Lib.hid (HB.out.keeps hkk)
      replace HL := Lib.hid (HL.out.keeps hkk)
      replace HC := Lib.hid (HC.out.keeps hkk)
      replace HD := Lib.hid (HD.out.keeps hkk)
      replace HY1 := Lib.hid (HY1.out.keeps hkk)
      replace HY2 := Lib.hid (HY2.out.keeps hkk)
      clear hkk
      have ha0 := HA.out.cell 0 _ rfl
      have ha1 := HA.out.cell 1 _ rfl
      have ha2 := HA.out.cell 2 _ rfl
      have ha3 := HA.out.cell 3 _ rfl
      have ha4 := HA.out.cell 4 _ rfl
      have hal := HA.out.lt
      have hb0 := HB.out.cell 0 _ rfl
      have hb1 := HB.out.cell 1 _ rfl
      have hb2 := HB.out.cell 2 _ rfl
      have hb3 := HB.out.cell 3 _ rfl
      have hb4 := HB.out.cell 4 _ rfl
      have hbl := HB.out.lt
      have hl0 := HL.out.cell 0 _ rfl
      have hl1 := HL.out.cell 1 _ rfl
      have hll := HL.out.lt
      have hc0 := HC.out.cell 0 _ rfl
      have hc1 := HC.out.cell 1 _ rfl
      have hcl := HC.out.lt
      have hd0 := HD.out.cell 0 _ rfl
      have hd1 := HD.out.cell 1 _ rfl
      have hdl := HD.out.lt
      have hqb0 := HQB.out.cell 0 _ rfl
      have hqb1 := HQB.out.cell 1 _ rfl
      have hqb2 := HQB.out.cell 2 _ rfl
      have hqb3 := HQB.out.cell 3 _ rfl
      have hqb4 := HQB.out.cell 4 _ rfl
      have hqbl := HQB.out.lt
      go_wp2_with fail
      clear ha0 ha1 ha2 ha3 ha4 hal hb0 hb1 hb2 hb3 hb4 hbl hl0 hl1 hll hc0 hc1 hcl hd0 hd1 hdl hqb0 hqb1 hqb2 hqb3 hqb4 hqbl
      have c1 := HA.out.later 0 _ rfl
      have c2 := HA.out.later 1 _ rfl
      have c3 := HA.out.later 2 _ rfl
      have c4 := HA.out.later 3 _ rfl
      have c5 := HA.out.later 4 _ rfl
      have c6 := HB.out.later 0 _ rfl
      have c7 := HB.out.later 1 _ rfl
      have c8 := HB.out.later 2 _ rfl
      have c9 := HB.out.later 3 _ rfl
      have c10 := HB.out.later 4 _ rfl
      have c11 := HL.out.later 0 _ rfl
      have c12 := HL.out.later 1 _ rfl
      have c13 := HC.out.later 0 _ rfl
      have c14 := HC.out.later 1 _ rfl
      have c15 := HD.out.later 0 _ rfl
      have c16 := HD.out.later 1 _ rfl
      have c17 := HQB.out.later 0 _ rfl
      have c18 := HQB.out.later 1 _ rfl
      have c19 := HQB.out.later 2 _ rfl
      have c20 := HQB.out.later 3 _ rfl
      have c21 := HQB.out.later 4 _ rfl
      refine wp_region_later (by kernel_rfl) (by kernel_rfl) ?_
      repeat (go_big_quiet_step (fail))
      refine wpQuiet_nil ?_
      rintro _ ⟨k, rfl⟩
      have HKK := Lib.hid (HK.out.trans k.keeps)
      clear c1 c2 c3 c4 c5 c6 c7 c8 c9 c10 c11 c12 c13 c14 c15 c16 c17 c18 c19 c20 c21
      go_wp2_with fail
      go_ret
      exact ⟨rfl, HKK.out⟩
  · have HCA := Lib.hid hca
    clear hca
    go_wp2_with fail
    with_reducible refine (cbits_any ⟨ta, pa, ma, xa, ba⟩ _).mono ?_
    rw [show cbitsRes ⟨ta, pa, ma, xa, ba⟩ = (csBits ⟨ta, pa, ma, xa, ba⟩, 0) from by unfold cbitsRes; rw [HCA.out]; rfl]
    rintro e w1 ⟨y, rfl, hy, -, hk1⟩
    obtain ⟨n1, a1, len1, cap1, l1⟩ := y
    have HY1 := Lib.hid hy
    clear hy
    have hkk := hk1
    replace HK := Lib.hid (HK.out.trans hkk)
    replace HA := Lib.hid (HA.out.keeps hkk)
    replace HB := Lib.hid (HB.out.keeps hkk)
    replace HL := Lib.hid (HL.out.keeps hkk)
    clear hkk hk1
    have ha0 := HA.out.cell 0 _ rfl
    have ha1 := HA.out.cell 1 _ rfl
    have ha2 := HA.out.cell 2 _ rfl
    have ha3 := HA.out.cell 3 _ rfl
    have ha4 := HA.out.cell 4 _ rfl
    have hal := HA.out.lt
    have hb0 := HB.out.cell 0 _ rfl
    have hb1 := HB.out.cell 1 _ rfl
    have hb2 := HB.out.cell 2 _ rfl
    have hb3 := HB.out.cell 3 _ rfl
    have hb4 := HB.out.cell 4 _ rfl
    have hbl := HB.out.lt
    have hl0 := HL.out.cell 0 _ rfl
    have hl1 := HL.out.cell 1 _ rfl
    have hll := HL.out.lt
    go_wp2_with fail
    with_reducible refine (cbits_any ⟨tb, pb, mb, xb, bb⟩ _).mono ?_
    rw [← HR2.out]
    rintro e w2 ⟨y, rfl, hy, -, hk2⟩
    obtain ⟨n2, a2, len2, cap2, l2⟩ := y
    have HY2 := Lib.hid hy
    clear hy
    clear ha0 ha1 ha2 ha3 ha4 hal hb0 hb1 hb2 hb3 hb4 hbl hl0 hl1 hll
    have hkk := ((Keeps.refl w1).alloc (.cells #[.int .i64 n1, .slice a1 len1 cap1] 26)).trans hk2
    have HC := Lib.hid ((Box.new w1 26 #[.int .i64 n1, .slice a1 len1 cap1]).keeps hk2)
    replace HK := Lib.hid (HK.out.trans hkk)
    replace HA := Lib.hid (HA.out.keeps hkk)
    replace HB := Lib.hid (HB.out.keeps hkk)
    replace HL := Lib.hid (HL.out.keeps hkk)
    replace HY1 := Lib.hid (HY1.out.keeps hkk)
    clear hkk hk2
    have ha0 := HA.out.cell 0 _ rfl
    have ha1 := HA.out.cell 1 _ rfl
    have ha2 := HA.out.cell 2 _ rfl
    have ha3 := HA.out.cell 3 _ rfl
    have ha4 := HA.out.cell 4 _ rfl
    have hal := HA.out.lt
    have hb0 := HB.out.cell 0 _ rfl
    have hb1 := HB.out.cell 1 _ rfl
    have hb2 := HB.out.cell 2 _ rfl
    have hb3 := HB.out.cell 3 _ rfl
    have hb4 := HB.out.cell 4 _ rfl
    have hbl := HB.out.lt
    have hl0 := HL.out.cell 0 _ rfl
    have hl1 := HL.out.cell 1 _ rfl
    have hll := HL.out.lt
    have hc0 := HC.out.cell 0 _ rfl
    have hc1 := HC.out.cell 1 _ rfl
    have hcl := HC.out.lt
    go_wp2_with fail
    with_reducible refine (begun4_any _).mono ?_
    rintro e w3 ⟨rfl, hk3⟩
    clear ha0 ha1 ha2 ha3 ha4 hal hb0 hb1 hb2 hb3 hb4 hbl hl0 hl1 hll hc0 hc1 hcl
    have hkk := ((Keeps.refl w2).alloc (.cells #[.int .i64 n2, .slice a2 len2 cap2] 26)).trans hk3
    have HD := Lib.hid ((Box.new w2 26 #[.int .i64 n2, .slice a2 len2 cap2]).keeps hk3)
    replace HK := Lib.hid (HK.out.trans hkk)
    replace HA := Lib.hid (HA.out.keeps hkk)
    replace HB := Lib.hid (HB.out.keeps hkk)
    replace HL := Lib.hid (HL.out.keeps hkk)
    replace HC := Lib.hid (HC.out.keeps hkk)
    replace HY1 := Lib.hid (HY1.out.keeps hkk)
    replace HY2 := Lib.hid (HY2.out.keeps hkk)
    clear hkk hk3
    have ha0 := HA.out.cell 0 _ rfl
    have ha1 := HA.out.cell 1 _ rfl
    have ha2 := HA.out.cell 2 _ rfl
    have ha3 := HA.out.cell 3 _ rfl
    have ha4 := HA.out.cell 4 _ rfl
    have hal := HA.out.lt
    have hb0 := HB.out.cell 0 _ rfl
    have hb1 := HB.out.cell 1 _ rfl
    have hb2 := HB.out.cell 2 _ rfl
    have hb3 := HB.out.cell 3 _ rfl
    have hb4 := HB.out.cell 4 _ rfl
    have hbl := HB.out.lt
    have hl0 := HL.out.cell 0 _ rfl
    have hl1 := HL.out.cell 1 _ rfl
    have hll := HL.out.lt
    have hc0 := HC.out.cell 0 _ rfl
    have hc1 := HC.out.cell 1 _ rfl
    have hcl := HC.out.lt
    have hd0 := HD.out.cell 0 _ rfl
    have hd1 := HD.out.cell 1 _ rfl
    have hdl := HD.out.lt
    obtain rfl : n1 = 24 := by have := HY1.out.n; rw [csBits_len] at this; exact this
    go_wp2_with fail
    with_reducible refine (cparse_any ⟨24, a1, len1, cap1, l1⟩ _ (by exact HY1.out.isIn)).mono ?_
    rw [show cparseRes ⟨24, a1, len1, cap1, l1⟩ = (⟨ta, pa, ma, xa, ba⟩, 0) from by unfold cparseRes; rw [HY1.out.chk, if_pos rfl, HY1.out.bits]; exact cparse_csBits HCA.out]
    rintro e w4 ⟨rfl, hk4⟩
    clear ha0 ha1 ha2 ha3 ha4 hal hb0 hb1 hb2 hb3 hb4 hbl hl0 hl1 hll hc0 hc1 hcl hd0 hd1 hdl
    have hkk := hk4
    replace HK := Lib.hid (HK.out.trans hkk)
    replace HA := Lib.hid (HA.out.keeps hkk)
    replace HB := Lib.hid (HB.out.keeps hkk)
    replace HL := Lib.hid (HL.out.keeps hkk)
    replace HC := Lib.hid (HC.out.keeps hkk)
    replace HD := Lib.hid (HD.out.keeps hkk)
    replace HY1 := Lib.hid (HY1.out.keeps hkk)
    replace HY2 := Lib.hid (HY2.out.keeps hkk)
    clear hkk hk4
    have ha0 := HA.out.cell 0 _ rfl
    have ha1 := HA.out.cell 1 _ rfl
    have ha2 := HA.out.cell 2 _ rfl
    have ha3 := HA.out.cell 3 _ rfl
    have ha4 := HA.out.cell 4 _ rfl
    have hal := HA.out.lt
    have hb0 := HB.out.cell 0 _ rfl
    have hb1 := HB.out.cell 1 _ rfl
    have hb2 := HB.out.cell 2 _ rfl
    have hb3 := HB.out.cell 3 _ rfl
    have hb4 := HB.out.cell 4 _ rfl
    have hbl := HB.out.lt
    have hl0 := HL.out.cell 0 _ rfl
    have hl1 := HL.out.cell 1 _ rfl
    have hll := HL.out.lt
    have hc0 := HC.out.cell 0 _ rfl
    have hc1 := HC.out.cell 1 _ rfl
    have hcl := HC.out.lt
    have hd0 := HD.out.cell 0 _ rfl
    have hd1 := HD.out.cell 1 _ rfl
    have hdl := HD.out.lt
    rcases HP.out with ⟨bs, hbs, hlen, hokl, hp⟩ | hp | hp
    · have HXS := Lib.hid hbs
      have HCL0 := Lib.hid hokl
      have HLE := Lib.hid hlen
      obtain ⟨⟨tq, pq, mq, xq, bq⟩, hq⟩ : ∃ q, q = csOf bs := ⟨_, rfl⟩
      rw [← hq] at hokl hp
      have HQ := Lib.hid hq
      have HCQ := Lib.hid hokl
      clear hbs hokl hlen hq
      go_wp2_with fail
      with_reducible refine (cparse_any ⟨n, a, len, cap, l⟩ _ (by exact HX.out.keeps (HK.out.alloc _))).mono ?_
      rw [hp]
      clear hp
      rintro e w5 ⟨rfl, hk5⟩
      clear ha0 ha1 ha2 ha3 ha4 hal hb0 hb1 hb2 hb3 hb4 hbl hl0 hl1 hll hc0 hc1 hcl hd0 hd1 hdl
      have hkk := ((Keeps.refl w4).alloc (.cells #[.int .i64 ta, .int .i64 pa, .int .i64 ma, .int .i64 xa, .int .i64 ba] 23)).trans hk5
      have HE := Lib.hid ((Box.new w4 23 #[.int .i64 ta, .int .i64 pa, .int .i64 ma, .int .i64 xa, .int .i64 ba]).keeps hk5)
      replace HK := Lib.hid (HK.out.trans hkk)
      replace HA := Lib.hid (HA.out.keeps hkk)
      replace HB := Lib.hid (HB.out.keeps hkk)
      replace HL := Lib.hid (HL.out.keeps hkk)
      replace HC := Lib.hid (HC.out.keeps hkk)
      replace HD := Lib.hid (HD.out.keeps hkk)
      replace HY1 := Lib.hid (HY1.out.keeps hkk)
      replace HY2 := Lib.hid (HY2.out.keeps hkk)
      clear hkk hk5
      have ha0 := HA.out.cell 0 _ rfl
      have ha1 := HA.out.cell 1 _ rfl
      have ha2 := HA.out.cell 2 _ rfl
      have ha3 := HA.out.cell 3 _ rfl
      have ha4 := HA.out.cell 4 _ rfl
      have hal := HA.out.lt
      have hb0 := HB.out.cell 0 _ rfl
      have hb1 := HB.out.cell 1 _ rfl
      have hb2 := HB.out.cell 2 _ rfl
      have hb3 := HB.out.cell 3 _ rfl
      have hb4 := HB.out.cell 4 _ rfl
      have hbl := HB.out.lt
      have hl0 := HL.out.cell 0 _ rfl
      have hl1 := HL.out.cell 1 _ rfl
      have hll := HL.out.lt
      have hc0 := HC.out.cell 0 _ rfl
      have hc1 := HC.out.cell 1 _ rfl
      have hcl := HC.out.lt
      have hd0 := HD.out.cell 0 _ rfl
      have hd1 := HD.out.cell 1 _ rfl
      have hdl := HD.out.lt
      have he0 := HE.out.cell 0 _ rfl
      have he1 := HE.out.cell 1 _ rfl
      have he2 := HE.out.cell 2 _ rfl
      have he3 := HE.out.cell 3 _ rfl
      have he4 := HE.out.cell 4 _ rfl
      have hel := HE.out.lt
      go_wp2_with fail
      with_reducible refine (cbits_any ⟨tq, pq, mq, xq, bq⟩ _).mono ?_
      rw [show cbitsRes ⟨tq, pq, mq, xq, bq⟩ = (bs, 0) from by unfold cbitsRes; rw [HCQ.out, if_pos rfl, HQ.out, csBits_csOf HLE.out]]
      rintro e w6 ⟨y, rfl, hy, -, hk6⟩
      obtain ⟨n6, a6, len6, cap6, l6⟩ := y
      have HY6 := Lib.hid hy
      clear hy
      clear ha0 ha1 ha2 ha3 ha4 hal hb0 hb1 hb2 hb3 hb4 hbl hl0 hl1 hll hc0 hc1 hcl hd0 hd1 hdl he0 he1 he2 he3 he4 hel
      have hkk := ((Keeps.refl w5).alloc (.cells #[.int .i64 tq, .int .i64 pq, .int .i64 mq, .int .i64 xq, .int .i64 bq] 23)).trans hk6
      have HQB := Lib.hid ((Box.new w5 23 #[.int .i64 tq, .int .i64 pq, .int .i64 mq, .int .i64 xq, .int .i64 bq]).keeps hk6)
      replace HK := Lib.hid (HK.out.trans hkk)
      replace HA := Lib.hid (HA.out.keeps hkk)
      replace HB := Lib.hid (HB.out.keeps hkk)
      replace HL := Lib.hid (HL.out.keeps hkk)
      replace HC := Lib.hid (HC.out.keeps hkk)
      replace HD := Lib.hid (HD.out.keeps hkk)
      replace HE := Lib.hid (HE.out.keeps hkk)
      replace HY1 := Lib.hid (HY1.out.keeps hkk)
      replace HY2 := Lib.hid (HY2.out.keeps hkk)
      clear hkk hk6
      have ha0 := HA.out.cell 0 _ rfl
      have ha1 := HA.out.cell 1 _ rfl
      have ha2 := HA.out.cell 2 _ rfl
      have ha3 := HA.out.cell 3 _ rfl
      have ha4 := HA.out.cell 4 _ rfl
      have hal := HA.out.lt
      have hb0 := HB.out.cell 0 _ rfl
      have hb1 := HB.out.cell 1 _ rfl
      have hb2 := HB.out.cell 2 _ rfl
      have hb3 := HB.out.cell 3 _ rfl
      have hb4 := HB.out.cell 4 _ rfl
      have hbl := HB.out.lt
      have hl0 := HL.out.cell 0 _ rfl
      have hl1 := HL.out.cell 1 _ rfl
      have hll := HL.out.lt
      have hc0 := HC.out.cell 0 _ rfl
      have hc1 := HC.out.cell 1 _ rfl
      have hcl := HC.out.lt
      have hd0 := HD.out.cell 0 _ rfl
      have hd1 := HD.out.cell 1 _ rfl
      have hdl := HD.out.lt
      have he0 := HE.out.cell 0 _ rfl
      have he1 := HE.out.cell 1 _ rfl
      have he2 := HE.out.cell 2 _ rfl
      have he3 := HE.out.cell 3 _ rfl
      have he4 := HE.out.cell 4 _ rfl
      have hel := HE.out.lt
      have hqb0 := HQB.out.cell 0 _ rfl
      have hqb1 := HQB.out.cell 1 _ rfl
      have hqb2 := HQB.out.cell 2 _ rfl
      have hqb3 := HQB.out.cell 3 _ rfl
      have hqb4 := HQB.out.cell 4 _ rfl
      have hqbl := HQB.out.lt
      go_wp2_with fail
      with_reducible refine (rsame_yes4 ⟨n6, a6, len6, cap6, l6⟩ ⟨n, a, len, cap, l⟩ bs _ (by exact HY6.out.keeps ((Keeps.refl _).alloc _)) (by exact HXS.out.keeps (HK.out.alloc _))).mono ?_
      rintro e w7 ⟨rfl, hk7⟩
      clear ha0 ha1 ha2 ha3 ha4 hal hb0 hb1 hb2 hb3 hb4 hbl hl0 hl1 hll hc0 hc1 hcl hd0 hd1 hdl he0 he1 he2 he3 he4 hel hqb0 hqb1 hqb2 hqb3 hqb4 hqbl
      have hkk := ((Keeps.refl w6).alloc (.cells #[.int .i64 n6, .slice a6 len6 cap6] 26)).trans hk7
      have HM := Lib.hid ((Box.new w6 26 #[.int .i64 n6, .slice a6 len6 cap6]).keeps hk7)
      replace HK := Lib.hid (HK.out.trans hkk)
      replace HA := Lib.hid (HA.out.keeps hkk)
      replace HB := Lib.hid (HB.out.keeps hkk)
      replace HL := Lib.hid (HL.out.keeps hkk)
      replace HC := Lib.hid (HC.out.keeps hkk)
      replace HD := Lib.hid (HD.out.keeps hkk)
      replace HE := Lib.hid (HE.out.keeps hkk)
      replace HQB := Lib.hid (HQB.out.keeps hkk)
      replace HY1 := Lib.hid (HY1.out.keeps hkk)
      replace HY2 := Lib.hid (HY2.out.keeps hkk)
      replace HY6 := Lib.hid (HY6.out.keeps hkk)
      clear hkk hk7
      have ha0 := HA.out.cell 0 _ rfl
      have ha1 := HA.out.cell 1 _ rfl
      have ha2 := HA.out.cell 2 _ rfl
      have ha3 := HA.out.cell 3 _ rfl
      have ha4 := HA.out.cell 4 _ rfl
      have hal := HA.out.lt
      have hb0 := HB.out.cell 0 _ rfl
      have hb1 := HB.out.cell 1 _ rfl
      have hb2 := HB.out.cell 2 _ rfl
      have hb3 := HB.out.cell 3 _ rfl
      have hb4 := HB.out.cell 4 _ rfl
      have hbl := HB.out.lt
      have hl0 := HL.out.cell 0 _ rfl
      have hl1 := HL.out.cell 1 _ rfl
      have hll := HL.out.lt
      have hc0 := HC.out.cell 0 _ rfl
      have hc1 := HC.out.cell 1 _ rfl
      have hcl := HC.out.lt
      have hd0 := HD.out.cell 0 _ rfl
      have hd1 := HD.out.cell 1 _ rfl
      have hdl := HD.out.lt
      have he0 := HE.out.cell 0 _ rfl
      have he1 := HE.out.cell 1 _ rfl
      have he2 := HE.out.cell 2 _ rfl
      have he3 := HE.out.cell 3 _ rfl
      have he4 := HE.out.cell 4 _ rfl
      have hel := HE.out.lt
      have hqb0 := HQB.out.cell 0 _ rfl
      have hqb1 := HQB.out.cell 1 _ rfl
      have hqb2 := HQB.out.cell 2 _ rfl
      have hqb3 := HQB.out.cell 3 _ rfl
      have hqb4 := HQB.out.cell 4 _ rfl
      have hqbl := HQB.out.lt
      have hm0 := HM.out.cell 0 _ rfl
      have hm1 := HM.out.cell 1 _ rfl
      have hml := HM.out.lt
      cases hcb : csOk ⟨tb, pb, mb, xb, bb⟩ 8
      · have hr2 : r2 = ([], 40) := by rw [HR2.out]; unfold cbitsRes; rw [hcb]; rfl
        subst hr2
        go_wp2_with fail
        clear ha0 ha1 ha2 ha3 ha4 hal hb0 hb1 hb2 hb3 hb4 hbl hl0 hl1 hll hc0 hc1 hcl hd0 hd1 hdl he0 he1 he2 he3 he4 hel hqb0 hqb1 hqb2 hqb3 hqb4 hqbl hm0 hm1 hml
        have c1 := HA.out.later 0 _ rfl
        have c2 := HA.out.later 1 _ rfl
        have c3 := HA.out.later 2 _ rfl
        have c4 := HA.out.later 3 _ rfl
        have c5 := HA.out.later 4 _ rfl
        have c6 := HB.out.later 0 _ rfl
        have c7 := HB.out.later 1 _ rfl
        have c8 := HB.out.later 2 _ rfl
        have c9 := HB.out.later 3 _ rfl
        have c10 := HB.out.later 4 _ rfl
        have c11 := HL.out.later 0 _ rfl
        have c12 := HL.out.later 1 _ rfl
        have c13 := HC.out.later 0 _ rfl
        have c14 := HC.out.later 1 _ rfl
        have c15 := HD.out.later 0 _ rfl
        have c16 := HD.out.later 1 _ rfl
        have c17 := HE.out.later 0 _ rfl
        have c18 := HE.out.later 1 _ rfl
        have c19 := HE.out.later 2 _ rfl
        have c20 := HE.out.later 3 _ rfl
        have c21 := HE.out.later 4 _ rfl
        have c22 := HQB.out.later 0 _ rfl
        have c23 := HQB.out.later 1 _ rfl
        have c24 := HQB.out.later 2 _ rfl
        have c25 := HQB.out.later 3 _ rfl
        have c26 := HQB.out.later 4 _ rfl
        have c27 := HM.out.later 0 _ rfl
        have c28 := HM.out.later 1 _ rfl
        refine wp_region_later (by kernel_rfl) (by kernel_rfl) ?_
        repeat (go_big_quiet_step (fail))
        refine wpQuiet_nil ?_
        rintro _ ⟨k, rfl⟩
        have HKK := Lib.hid (HK.out.trans k.keeps)
        clear c1 c2 c3 c4 c5 c6 c7 c8 c9 c10 c11 c12 c13 c14 c15 c16 c17 c18 c19 c20 c21 c22 c23 c24 c25 c26 c27 c28
        go_wp2_with fail
        go_ret
        exact ⟨rfl, HKK.out⟩
      · have hr2 : r2 = (csBits ⟨tb, pb, mb, xb, bb⟩, 0) := by rw [HR2.out]; unfold cbitsRes; rw [hcb]; rfl
        have HCB := Lib.hid hcb
        clear hcb
        subst hr2
        by_cases hab : (⟨ta, pa, ma, xa, ba⟩ : CS) = ⟨tb, pb, mb, xb, bb⟩
        · obtain ⟨rfl, rfl, rfl, rfl, rfl⟩ := CS.mk.inj hab
          clear hab
          go_wp2_with fail
          clear ha0 ha1 ha2 ha3 ha4 hal hb0 hb1 hb2 hb3 hb4 hbl hl0 hl1 hll hc0 hc1 hcl hd0 hd1 hdl he0 he1 he2 he3 he4 hel hqb0 hqb1 hqb2 hqb3 hqb4 hqbl hm0 hm1 hml
          have c1 := HA.out.later 0 _ rfl
          have c2 := HA.out.later 1 _ rfl
          have c3 := HA.out.later 2 _ rfl
          have c4 := HA.out.later 3 _ rfl
          have c5 := HA.out.later 4 _ rfl
          have c6 := HB.out.later 0 _ rfl
          have c7 := HB.out.later 1 _ rfl
          have c8 := HB.out.later 2 _ rfl
          have c9 := HB.out.later 3 _ rfl
          have c10 := HB.out.later 4 _ rfl
          have c11 := HL.out.later 0 _ rfl
          have c12 := HL.out.later 1 _ rfl
          have c13 := HC.out.later 0 _ rfl
          have c14 := HC.out.later 1 _ rfl
          have c15 := HD.out.later 0 _ rfl
          have c16 := HD.out.later 1 _ rfl
          have c17 := HE.out.later 0 _ rfl
          have c18 := HE.out.later 1 _ rfl
          have c19 := HE.out.later 2 _ rfl
          have c20 := HE.out.later 3 _ rfl
          have c21 := HE.out.later 4 _ rfl
          have c22 := HQB.out.later 0 _ rfl
          have c23 := HQB.out.later 1 _ rfl
          have c24 := HQB.out.later 2 _ rfl
          have c25 := HQB.out.later 3 _ rfl
          have c26 := HQB.out.later 4 _ rfl
          have c27 := HM.out.later 0 _ rfl
          have c28 := HM.out.later 1 _ rfl
          refine wp_region_later (by kernel_rfl) (by kernel_rfl) ?_
          repeat (go_big_quiet_step (first | (go_at_call 21; with_reducible exact Later.calls _ (rsame_yes4 ⟨24, a1, len1, cap1, l1⟩ ⟨n2, a2, len2, cap2, l2⟩ (csBits ⟨ta, pa, ma, xa, ba⟩) _ (HY1.out.keeps (Later.keeps _)) (HY2.out.keeps (Later.keeps _))))))
          refine wpQuiet_nil ?_
          rintro _ ⟨k, rfl⟩
          have HKK := Lib.hid (HK.out.trans k.keeps)
          clear c1 c2 c3 c4 c5 c6 c7 c8 c9 c10 c11 c12 c13 c14 c15 c16 c17 c18 c19 c20 c21 c22 c23 c24 c25 c26 c27 c28
          go_wp2_with fail
          go_ret
          exact ⟨rfl, HKK.out⟩
        · have HNE := Lib.hid (show csBits ⟨ta, pa, ma, xa, ba⟩ ≠ csBits ⟨tb, pb, mb, xb, bb⟩ from fun h => hab (csBits_inj HCA.out HCB.out h))
          have hdf : csSame ⟨ta, pa, ma, xa, ba⟩ ⟨tb, pb, mb, xb, bb⟩ = false := csSame_no hab
          clear hab
          go_wp2_with fail
          clear ha0 ha1 ha2 ha3 ha4 hal hb0 hb1 hb2 hb3 hb4 hbl hl0 hl1 hll hc0 hc1 hcl hd0 hd1 hdl he0 he1 he2 he3 he4 hel hqb0 hqb1 hqb2 hqb3 hqb4 hqbl hm0 hm1 hml
          have c1 := HA.out.later 0 _ rfl
          have c2 := HA.out.later 1 _ rfl
          have c3 := HA.out.later 2 _ rfl
          have c4 := HA.out.later 3 _ rfl
          have c5 := HA.out.later 4 _ rfl
          have c6 := HB.out.later 0 _ rfl
          have c7 := HB.out.later 1 _ rfl
          have c8 := HB.out.later 2 _ rfl
          have c9 := HB.out.later 3 _ rfl
          have c10 := HB.out.later 4 _ rfl
          have c11 := HL.out.later 0 _ rfl
          have c12 := HL.out.later 1 _ rfl
          have c13 := HC.out.later 0 _ rfl
          have c14 := HC.out.later 1 _ rfl
          have c15 := HD.out.later 0 _ rfl
          have c16 := HD.out.later 1 _ rfl
          have c17 := HE.out.later 0 _ rfl
          have c18 := HE.out.later 1 _ rfl
          have c19 := HE.out.later 2 _ rfl
          have c20 := HE.out.later 3 _ rfl
          have c21 := HE.out.later 4 _ rfl
          have c22 := HQB.out.later 0 _ rfl
          have c23 := HQB.out.later 1 _ rfl
          have c24 := HQB.out.later 2 _ rfl
          have c25 := HQB.out.later 3 _ rfl
          have c26 := HQB.out.later 4 _ rfl
          have c27 := HM.out.later 0 _ rfl
          have c28 := HM.out.later 1 _ rfl
          refine wp_region_later (by kernel_rfl) (by kernel_rfl) ?_
          repeat (go_big_quiet_step (first | (go_at_call 21; with_reducible exact Later.calls _ (rsame_no4 ⟨24, a1, len1, cap1, l1⟩ ⟨n2, a2, len2, cap2, l2⟩ (csBits ⟨ta, pa, ma, xa, ba⟩) (csBits ⟨tb, pb, mb, xb, bb⟩) _ (HY1.out.keeps (Later.keeps _)) (HY2.out.keeps (Later.keeps _)) HNE.out))))
          refine wpQuiet_nil ?_
          rintro _ ⟨k, rfl⟩
          have HKK := Lib.hid (HK.out.trans k.keeps)
          clear c1 c2 c3 c4 c5 c6 c7 c8 c9 c10 c11 c12 c13 c14 c15 c16 c17 c18 c19 c20 c21 c22 c23 c24 c25 c26 c27 c28
          go_wp2_with fail
          go_ret
          exact ⟨rfl, HKK.out⟩
    · go_wp2_with fail
      with_reducible refine (cparse_any ⟨n, a, len, cap, l⟩ _ (by exact HX.out.keeps (HK.out.alloc _))).mono ?_
      rw [hp]
      clear hp
      rintro e w5 ⟨rfl, hk5⟩
      simp only [CS.zero]
      clear ha0 ha1 ha2 ha3 ha4 hal hb0 hb1 hb2 hb3 hb4 hbl hl0 hl1 hll hc0 hc1 hcl hd0 hd1 hdl
      have hkk := ((Keeps.refl w4).alloc (.cells #[.int .i64 ta, .int .i64 pa, .int .i64 ma, .int .i64 xa, .int .i64 ba] 23)).trans hk5
      have HE := Lib.hid ((Box.new w4 23 #[.int .i64 ta, .int .i64 pa, .int .i64 ma, .int .i64 xa, .int .i64 ba]).keeps hk5)
      replace HK := Lib.hid (HK.out.trans hkk)
      replace HA := Lib.hid (HA.out.keeps hkk)
      replace HB := Lib.hid (HB.out.keeps hkk)
      replace HL := Lib.hid (HL.out.keeps hkk)
      replace HC := Lib.hid (HC.out.keeps hkk)
      replace HD := Lib.hid (HD.out.keeps hkk)
      replace HY1 := Lib.hid (HY1.out.keeps hkk)
      replace HY2 := Lib.hid (HY2.out.keeps hkk)
      clear hkk hk5
      have ha0 := HA.out.cell 0 _ rfl
      have ha1 := HA.out.cell 1 _ rfl
      have ha2 := HA.out.cell 2 _ rfl
      have ha3 := HA.out.cell 3 _ rfl
      have ha4 := HA.out.cell 4 _ rfl
      have hal := HA.out.lt
      have hb0 := HB.out.cell 0 _ rfl
      have hb1 := HB.out.cell 1 _ rfl
      have hb2 := HB.out.cell 2 _ rfl
      have hb3 := HB.out.cell 3 _ rfl
      have hb4 := HB.out.cell 4 _ rfl
      have hbl := HB.out.lt
      have hl0 := HL.out.cell 0 _ rfl
      have hl1 := HL.out.cell 1 _ rfl
      have hll := HL.out.lt
      have hc0 := HC.out.cell 0 _ rfl
      have hc1 := HC.out.cell 1 _ rfl
      have hcl := HC.out.lt
      have hd0 := HD.out.cell 0 _ rfl
      have hd1 := HD.out.cell 1 _ rfl
      have hdl := HD.out.lt
      have he0 := HE.out.cell 0 _ rfl
      have he1 := HE.out.cell 1 _ rfl
      have he2 := HE.out.cell 2 _ rfl
      have he3 := HE.out.cell 3 _ rfl
      have he4 := HE.out.cell 4 _ rfl
      have hel := HE.out.lt
      clear ha0 ha1 ha2 ha3 ha4 hal hb0 hb1 hb2 hb3 hb4 hbl hl0 hl1 hll hc0 hc1 hcl hd0 hd1 hdl he0 he1 he2 he3 he4 hel
      have hkk := (Keeps.refl w5).alloc (.cells #[.int .i64 0, .int .i64 0, .int .i64 0, .int .i64 0, .int .i64 0] 23)
      have HQB := Lib.hid (Box.new w5 23 #[.int .i64 0, .int .i64 0, .int .i64 0, .int .i64 0, .int .i64 0])
      replace HK := Lib.hid (HK.out.trans hkk)
      replace HA := Lib.hid (HA.out.keeps hkk)
      replace HB := Lib.hid (HB.out.keeps hkk)
      replace HL := Lib.hid (HL.out.keeps hkk)
      replace HC := Lib.hid (HC.out.keeps hkk)
      replace HD := Lib.hid (HD.out.keeps hkk)
      replace HE := Lib.hid (HE.out.keeps hkk)
      replace HY1 := Lib.hid (HY1.out.keeps hkk)
      replace HY2 := Lib.hid (HY2.out.keeps hkk)
      clear hkk
      have ha0 := HA.out.cell 0 _ rfl
      have ha1 := HA.out.cell 1 _ rfl
      have ha2 := HA.out.cell 2 _ rfl
      have ha3 := HA.out.cell 3 _ rfl
      have ha4 := HA.out.cell 4 _ rfl
      have hal := HA.out.lt
      have hb0 := HB.out.cell 0 _ rfl
      have hb1 := HB.out.cell 1 _ rfl
      have hb2 := HB.out.cell 2 _ rfl
      have hb3 := HB.out.cell 3 _ rfl
      have hb4 := HB.out.cell 4 _ rfl
      have hbl := HB.out.lt
      have hl0 := HL.out.cell 0 _ rfl
      have hl1 := HL.out.cell 1 _ rfl
      have hll := HL.out.lt
      have hc0 := HC.out.cell 0 _ rfl
      have hc1 := HC.out.cell 1 _ rfl
      have hcl := HC.out.lt
      have hd0 := HD.out.cell 0 _ rfl
      have hd1 := HD.out.cell 1 _ rfl
      have hdl := HD.out.lt
      have he0 := HE.out.cell 0 _ rfl
      have he1 := HE.out.cell 1 _ rfl
      have he2 := HE.out.cell 2 _ rfl
      have he3 := HE.out.cell 3 _ rfl
      have he4 := HE.out.cell 4 _ rfl
      have hel := HE.out.lt
      have hqb0 := HQB.out.cell 0 _ rfl
      have hqb1 := HQB.out.cell 1 _ rfl
      have hqb2 := HQB.out.cell 2 _ rfl
      have hqb3 := HQB.out.cell 3 _ rfl
      have hqb4 := HQB.out.cell 4 _ rfl
      have hqbl := HQB.out.lt
      cases hcb : csOk ⟨tb, pb, mb, xb, bb⟩ 8
      · have hr2 : r2 = ([], 40) := by rw [HR2.out]; unfold cbitsRes; rw [hcb]; rfl
        subst hr2
        go_wp2_with fail
        clear ha0 ha1 ha2 ha3 ha4 hal hb0 hb1 hb2 hb3 hb4 hbl hl0 hl1 hll hc0 hc1 hcl hd0 hd1 hdl he0 he1 he2 he3 he4 hel hqb0 hqb1 hqb2 hqb3 hqb4 hqbl
        have c1 := HA.out.later 0 _ rfl
        have c2 := HA.out.later 1 _ rfl
        have c3 := HA.out.later 2 _ rfl
        have c4 := HA.out.later 3 _ rfl
        have c5 := HA.out.later 4 _ rfl
        have c6 := HB.out.later 0 _ rfl
        have c7 := HB.out.later 1 _ rfl
        have c8 := HB.out.later 2 _ rfl
        have c9 := HB.out.later 3 _ rfl
        have c10 := HB.out.later 4 _ rfl
        have c11 := HL.out.later 0 _ rfl
        have c12 := HL.out.later 1 _ rfl
        have c13 := HC.out.later 0 _ rfl
        have c14 := HC.out.later 1 _ rfl
        have c15 := HD.out.later 0 _ rfl
        have c16 := HD.out.later 1 _ rfl
        have c17 := HE.out.later 0 _ rfl
        have c18 := HE.out.later 1 _ rfl
        have c19 := HE.out.later 2 _ rfl
        have c20 := HE.out.later 3 _ rfl
        have c21 := HE.out.later 4 _ rfl
        have c22 := HQB.out.later 0 _ rfl
        have c23 := HQB.out.later 1 _ rfl
        have c24 := HQB.out.later 2 _ rfl
        have c25 := HQB.out.later 3 _ rfl
        have c26 := HQB.out.later 4 _ rfl
        refine wp_region_later (by kernel_rfl) (by kernel_rfl) ?_
        repeat (go_big_quiet_step (fail))
        refine wpQuiet_nil ?_
        rintro _ ⟨k, rfl⟩
        have HKK := Lib.hid (HK.out.trans k.keeps)
        clear c1 c2 c3 c4 c5 c6 c7 c8 c9 c10 c11 c12 c13 c14 c15 c16 c17 c18 c19 c20 c21 c22 c23 c24 c25 c26
        go_wp2_with fail
        go_ret
        exact ⟨rfl, HKK.out⟩
      · have hr2 : r2 = (csBits ⟨tb, pb, mb, xb, bb⟩, 0) := by rw [HR2.out]; unfold cbitsRes; rw [hcb]; rfl
        have HCB := Lib.hid hcb
        clear hcb
        subst hr2
        by_cases hab : (⟨ta, pa, ma, xa, ba⟩ : CS) = ⟨tb, pb, mb, xb, bb⟩
        · obtain ⟨rfl, rfl, rfl, rfl, rfl⟩ := CS.mk.inj hab
          clear hab
          go_wp2_with fail
          clear ha0 ha1 ha2 ha3 ha4 hal hb0 hb1 hb2 hb3 hb4 hbl hl0 hl1 hll hc0 hc1 hcl hd0 hd1 hdl he0 he1 he2 he3 he4 hel hqb0 hqb1 hqb2 hqb3 hqb4 hqbl
          have c1 := HA.out.later 0 _ rfl
          have c2 := HA.out.later 1 _ rfl
          have c3 := HA.out.later 2 _ rfl
          have c4 := HA.out.later 3 _ rfl
          have c5 := HA.out.later 4 _ rfl
          have c6 := HB.out.later 0 _ rfl
          have c7 := HB.out.later 1 _ rfl
          have c8 := HB.out.later 2 _ rfl
          have c9 := HB.out.later 3 _ rfl
          have c10 := HB.out.later 4 _ rfl
          have c11 := HL.out.later 0 _ rfl
          have c12 := HL.out.later 1 _ rfl
          have c13 := HC.out.later 0 _ rfl
          have c14 := HC.out.later 1 _ rfl
          have c15 := HD.out.later 0 _ rfl
          have c16 := HD.out.later 1 _ rfl
          have c17 := HE.out.later 0 _ rfl
          have c18 := HE.out.later 1 _ rfl
          have c19 := HE.out.later 2 _ rfl
          have c20 := HE.out.later 3 _ rfl
          have c21 := HE.out.later 4 _ rfl
          have c22 := HQB.out.later 0 _ rfl
          have c23 := HQB.out.later 1 _ rfl
          have c24 := HQB.out.later 2 _ rfl
          have c25 := HQB.out.later 3 _ rfl
          have c26 := HQB.out.later 4 _ rfl
          refine wp_region_later (by kernel_rfl) (by kernel_rfl) ?_
          repeat (go_big_quiet_step (first | (go_at_call 21; with_reducible exact Later.calls _ (rsame_yes4 ⟨24, a1, len1, cap1, l1⟩ ⟨n2, a2, len2, cap2, l2⟩ (csBits ⟨ta, pa, ma, xa, ba⟩) _ (HY1.out.keeps (Later.keeps _)) (HY2.out.keeps (Later.keeps _))))))
          refine wpQuiet_nil ?_
          rintro _ ⟨k, rfl⟩
          have HKK := Lib.hid (HK.out.trans k.keeps)
          clear c1 c2 c3 c4 c5 c6 c7 c8 c9 c10 c11 c12 c13 c14 c15 c16 c17 c18 c19 c20 c21 c22 c23 c24 c25 c26
          go_wp2_with fail
          go_ret
          exact ⟨rfl, HKK.out⟩
        · have HNE := Lib.hid (show csBits ⟨ta, pa, ma, xa, ba⟩ ≠ csBits ⟨tb, pb, mb, xb, bb⟩ from fun h => hab (csBits_inj HCA.out HCB.out h))
          have hdf : csSame ⟨ta, pa, ma, xa, ba⟩ ⟨tb, pb, mb, xb, bb⟩ = false := csSame_no hab
          clear hab
          go_wp2_with fail
          clear ha0 ha1 ha2 ha3 ha4 hal hb0 hb1 hb2 hb3 hb4 hbl hl0 hl1 hll hc0 hc1 hcl hd0 hd1 hdl he0 he1 he2 he3 he4 hel hqb0 hqb1 hqb2 hqb3 hqb4 hqbl
          have c1 := HA.out.later 0 _ rfl
          have c2 := HA.out.later 1 _ rfl
          have c3 := HA.out.later 2 _ rfl
          have c4 := HA.out.later 3 _ rfl
          have c5 := HA.out.later 4 _ rfl
          have c6 := HB.out.later 0 _ rfl
          have c7 := HB.out.later 1 _ rfl
          have c8 := HB.out.later 2 _ rfl
          have c9 := HB.out.later 3 _ rfl
          have c10 := HB.out.later 4 _ rfl
          have c11 := HL.out.later 0 _ rfl
          have c12 := HL.out.later 1 _ rfl
          have c13 := HC.out.later 0 _ rfl
          have c14 := HC.out.later 1 _ rfl
          have c15 := HD.out.later 0 _ rfl
          have c16 := HD.out.later 1 _ rfl
          have c17 := HE.out.later 0 _ rfl
          have c18 := HE.out.later 1 _ rfl
          have c19 := HE.out.later 2 _ rfl
          have c20 := HE.out.later 3 _ rfl
          have c21 := HE.out.later 4 _ rfl
          have c22 := HQB.out.later 0 _ rfl
          have c23 := HQB.out.later 1 _ rfl
          have c24 := HQB.out.later 2 _ rfl
          have c25 := HQB.out.later 3 _ rfl
          have c26 := HQB.out.later 4 _ rfl
          refine wp_region_later (by kernel_rfl) (by kernel_rfl) ?_
          repeat (go_big_quiet_step (first | (go_at_call 21; with_reducible exact Later.calls _ (rsame_no4 ⟨24, a1, len1, cap1, l1⟩ ⟨n2, a2, len2, cap2, l2⟩ (csBits ⟨ta, pa, ma, xa, ba⟩) (csBits ⟨tb, pb, mb, xb, bb⟩) _ (HY1.out.keeps (Later.keeps _)) (HY2.out.keeps (Later.keeps _)) HNE.out))))
          refine wpQuiet_nil ?_
          rintro _ ⟨k, rfl⟩
          have HKK := Lib.hid (HK.out.trans k.keeps)
          clear c1 c2 c3 c4 c5 c6 c7 c8 c9 c10 c11 c12 c13 c14 c15 c16 c17 c18 c19 c20 c21 c22 c23 c24 c25 c26
          go_wp2_with fail
          go_ret
          exact ⟨rfl, HKK.out⟩
    · go_wp2_with fail
      with_reducible refine (cparse_any ⟨n, a, len, cap, l⟩ _ (by exact HX.out.keeps (HK.out.alloc _))).mono ?_
      rw [hp]
      clear hp
      rintro e w5 ⟨rfl, hk5⟩
      simp only [CS.zero]
      clear ha0 ha1 ha2 ha3 ha4 hal hb0 hb1 hb2 hb3 hb4 hbl hl0 hl1 hll hc0 hc1 hcl hd0 hd1 hdl
      have hkk := ((Keeps.refl w4).alloc (.cells #[.int .i64 ta, .int .i64 pa, .int .i64 ma, .int .i64 xa, .int .i64 ba] 23)).trans hk5
      have HE := Lib.hid ((Box.new w4 23 #[.int .i64 ta, .int .i64 pa, .int .i64 ma, .int .i64 xa, .int .i64 ba]).keeps hk5)
      replace HK := Lib.hid (HK.out.trans hkk)
      replace HA := Lib.hid (HA.out.keeps hkk)
      replace HB := Lib.hid (HB.out.keeps hkk)
      replace HL := Lib.hid (HL.out.keeps hkk)
      replace HC := Lib.hid (HC.out.keeps hkk)
      replace HD := Lib.hid (HD.out.keeps hkk)
      replace HY1 := Lib.hid (HY1.out.keeps hkk)
      replace HY2 := Lib.hid (HY2.out.keeps hkk)
      clear hkk hk5
      have ha0 := HA.out.cell 0 _ rfl
      have ha1 := HA.out.cell 1 _ rfl
      have ha2 := HA.out.cell 2 _ rfl
      have ha3 := HA.out.cell 3 _ rfl
      have ha4 := HA.out.cell 4 _ rfl
      have hal := HA.out.lt
      have hb0 := HB.out.cell 0 _ rfl
      have hb1 := HB.out.cell 1 _ rfl
      have hb2 := HB.out.cell 2 _ rfl
      have hb3 := HB.out.cell 3 _ rfl
      have hb4 := HB.out.cell 4 _ rfl
      have hbl := HB.out.lt
      have hl0 := HL.out.cell 0 _ rfl
      have hl1 := HL.out.cell 1 _ rfl
      have hll := HL.out.lt
      have hc0 := HC.out.cell 0 _ rfl
      have hc1 := HC.out.cell 1 _ rfl
      have hcl := HC.out.lt
      have hd0 := HD.out.cell 0 _ rfl
      have hd1 := HD.out.cell 1 _ rfl
      have hdl := HD.out.lt
      have he0 := HE.out.cell 0 _ rfl
      have he1 := HE.out.cell 1 _ rfl
      have he2 := HE.out.cell 2 _ rfl
      have he3 := HE.out.cell 3 _ rfl
      have he4 := HE.out.cell 4 _ rfl
      have hel := HE.out.lt
      clear ha0 ha1 ha2 ha3 ha4 hal hb0 hb1 hb2 hb3 hb4 hbl hl0 hl1 hll hc0 hc1 hcl hd0 hd1 hdl he0 he1 he2 he3 he4 hel
      have hkk := (Keeps.refl w5).alloc (.cells #[.int .i64 0, .int .i64 0, .int .i64 0, .int .i64 0, .int .i64 0] 23)
      have HQB := Lib.hid (Box.new w5 23 #[.int .i64 0, .int .i64 0, .int .i64 0, .int .i64 0, .int .i64 0])
      replace HK := Lib.hid (HK.out.trans hkk)
      replace HA := Lib.hid (HA.out.keeps hkk)
      replace HB := Lib.hid (HB.out.keeps hkk)
      replace HL := Lib.hid (HL.out.keeps hkk)
      replace HC := Lib.hid (HC.out.keeps hkk)
      replace HD := Lib.hid (HD.out.keeps hkk)
      replace HE := Lib.hid (HE.out.keeps hkk)
      replace HY1 := Lib.hid (HY1.out.keeps hkk)
      replace HY2 := Lib.hid (HY2.out.keeps hkk)
      clear hkk
      have ha0 := HA.out.cell 0 _ rfl
      have ha1 := HA.out.cell 1 _ rfl
      have ha2 := HA.out.cell 2 _ rfl
      have ha3 := HA.out.cell 3 _ rfl
      have ha4 := HA.out.cell 4 _ rfl
      have hal := HA.out.lt
      have hb0 := HB.out.cell 0 _ rfl
      have hb1 := HB.out.cell 1 _ rfl
      have hb2 := HB.out.cell 2 _ rfl
      have hb3 := HB.out.cell 3 _ rfl
      have hb4 := HB.out.cell 4 _ rfl
      have hbl := HB.out.lt
      have hl0 := HL.out.cell 0 _ rfl
      have hl1 := HL.out.cell 1 _ rfl
      have hll := HL.out.lt
      have hc0 := HC.out.cell 0 _ rfl
      have hc1 := HC.out.cell 1 _ rfl
      have hcl := HC.out.lt
      have hd0 := HD.out.cell 0 _ rfl
      have hd1 := HD.out.cell 1 _ rfl
      have hdl := HD.out.lt
      have he0 := HE.out.cell 0 _ rfl
      have he1 := HE.out.cell 1 _ rfl
      have he2 := HE.out.cell 2 _ rfl
      have he3 := HE.out.cell 3 _ rfl
      have he4 := HE.out.cell 4 _ rfl
      have hel := HE.out.lt
      have hqb0 := HQB.out.cell 0 _ rfl
      have hqb1 := HQB.out.cell 1 _ rfl
      have hqb2 := HQB.out.cell 2 _ rfl
      have hqb3 := HQB.out.cell 3 _ rfl
      have hqb4 := HQB.out.cell 4 _ rfl
      have hqbl := HQB.out.lt
      cases hcb : csOk ⟨tb, pb, mb, xb, bb⟩ 8
      · have hr2 : r2 = ([], 40) := by rw [HR2.out]; unfold cbitsRes; rw [hcb]; rfl
        subst hr2
        go_wp2_with fail
        clear ha0 ha1 ha2 ha3 ha4 hal hb0 hb1 hb2 hb3 hb4 hbl hl0 hl1 hll hc0 hc1 hcl hd0 hd1 hdl he0 he1 he2 he3 he4 hel hqb0 hqb1 hqb2 hqb3 hqb4 hqbl
        have c1 := HA.out.later 0 _ rfl
        have c2 := HA.out.later 1 _ rfl
        have c3 := HA.out.later 2 _ rfl
        have c4 := HA.out.later 3 _ rfl
        have c5 := HA.out.later 4 _ rfl
        have c6 := HB.out.later 0 _ rfl
        have c7 := HB.out.later 1 _ rfl
        have c8 := HB.out.later 2 _ rfl
        have c9 := HB.out.later 3 _ rfl
        have c10 := HB.out.later 4 _ rfl
        have c11 := HL.out.later 0 _ rfl
        have c12 := HL.out.later 1 _ rfl
        have c13 := HC.out.later 0 _ rfl
        have c14 := HC.out.later 1 _ rfl
        have c15 := HD.out.later 0 _ rfl
        have c16 := HD.out.later 1 _ rfl
        have c17 := HE.out.later 0 _ rfl
        have c18 := HE.out.later 1 _ rfl
        have c19 := HE.out.later 2 _ rfl
        have c20 := HE.out.later 3 _ rfl
        have c21 := HE.out.later 4 _ rfl
        have c22 := HQB.out.later 0 _ rfl
        have c23 := HQB.out.later 1 _ rfl
        have c24 := HQB.out.later 2 _ rfl
        have c25 := HQB.out.later 3 _ rfl
        have c26 := HQB.out.later 4 _ rfl
        refine wp_region_later (by kernel_rfl) (by kernel_rfl) ?_
        repeat (go_big_quiet_step (fail))
        refine wpQuiet_nil ?_
        rintro _ ⟨k, rfl⟩
        have HKK := Lib.hid (HK.out.trans k.keeps)
        clear c1 c2 c3 c4 c5 c6 c7 c8 c9 c10 c11 c12 c13 c14 c15 c16 c17 c18 c19 c20 c21 c22 c23 c24 c25 c26
        go_wp2_with fail
        go_ret
        exact ⟨rfl, HKK.out⟩
      · have hr2 : r2 = (csBits ⟨tb, pb, mb, xb, bb⟩, 0) := by rw [HR2.out]; unfold cbitsRes; rw [hcb]; rfl
        have HCB := Lib.hid hcb
        clear hcb
        subst hr2
        by_cases hab : (⟨ta, pa, ma, xa, ba⟩ : CS) = ⟨tb, pb, mb, xb, bb⟩
        · obtain ⟨rfl, rfl, rfl, rfl, rfl⟩ := CS.mk.inj hab
          clear hab
          go_wp2_with fail
          clear ha0 ha1 ha2 ha3 ha4 hal hb0 hb1 hb2 hb3 hb4 hbl hl0 hl1 hll hc0 hc1 hcl hd0 hd1 hdl he0 he1 he2 he3 he4 hel hqb0 hqb1 hqb2 hqb3 hqb4 hqbl
          have c1 := HA.out.later 0 _ rfl
          have c2 := HA.out.later 1 _ rfl
          have c3 := HA.out.later 2 _ rfl
          have c4 := HA.out.later 3 _ rfl
          have c5 := HA.out.later 4 _ rfl
          have c6 := HB.out.later 0 _ rfl
          have c7 := HB.out.later 1 _ rfl
          have c8 := HB.out.later 2 _ rfl
          have c9 := HB.out.later 3 _ rfl
          have c10 := HB.out.later 4 _ rfl
          have c11 := HL.out.later 0 _ rfl
          have c12 := HL.out.later 1 _ rfl
          have c13 := HC.out.later 0 _ rfl
          have c14 := HC.out.later 1 _ rfl
          have c15 := HD.out.later 0 _ rfl
          have c16 := HD.out.later 1 _ rfl
          have c17 := HE.out.later 0 _ rfl
          have c18 := HE.out.later 1 _ rfl
          have c19 := HE.out.later 2 _ rfl
          have c20 := HE.out.later 3 _ rfl
          have c21 := HE.out.later 4 _ rfl
          have c22 := HQB.out.later 0 _ rfl
          have c23 := HQB.out.later 1 _ rfl
          have c24 := HQB.out.later 2 _ rfl
          have c25 := HQB.out.later 3 _ rfl
          have c26 := HQB.out.later 4 _ rfl
          refine wp_region_later (by kernel_rfl) (by kernel_rfl) ?_
          repeat (go_big_quiet_step (first | (go_at_call 21; with_reducible exact Later.calls _ (rsame_yes4 ⟨24, a1, len1, cap1, l1⟩ ⟨n2, a2, len2, cap2, l2⟩ (csBits ⟨ta, pa, ma, xa, ba⟩) _ (HY1.out.keeps (Later.keeps _)) (HY2.out.keeps (Later.keeps _))))))
          refine wpQuiet_nil ?_
          rintro _ ⟨k, rfl⟩
          have HKK := Lib.hid (HK.out.trans k.keeps)
          clear c1 c2 c3 c4 c5 c6 c7 c8 c9 c10 c11 c12 c13 c14 c15 c16 c17 c18 c19 c20 c21 c22 c23 c24 c25 c26
          go_wp2_with fail
          go_ret
          exact ⟨rfl, HKK.out⟩
        · have HNE := Lib.hid (show csBits ⟨ta, pa, ma, xa, ba⟩ ≠ csBits ⟨tb, pb, mb, xb, bb⟩ from fun h => hab (csBits_inj HCA.out HCB.out h))
          have hdf : csSame ⟨ta, pa, ma, xa, ba⟩ ⟨tb, pb, mb, xb, bb⟩ = false := csSame_no hab
          clear hab
          go_wp2_with fail
          clear ha0 ha1 ha2 ha3 ha4 hal hb0 hb1 hb2 hb3 hb4 hbl hl0 hl1 hll hc0 hc1 hcl hd0 hd1 hdl he0 he1 he2 he3 he4 hel hqb0 hqb1 hqb2 hqb3 hqb4 hqbl
          have c1 := HA.out.later 0 _ rfl
          have c2 := HA.out.later 1 _ rfl
          have c3 := HA.out.later 2 _ rfl
          have c4 := HA.out.later 3 _ rfl
          have c5 := HA.out.later 4 _ rfl
          have c6 := HB.out.later 0 _ rfl
          have c7 := HB.out.later 1 _ rfl
          have c8 := HB.out.later 2 _ rfl
          have c9 := HB.out.later 3 _ rfl
          have c10 := HB.out.later 4 _ rfl
          have c11 := HL.out.later 0 _ rfl
          have c12 := HL.out.later 1 _ rfl
          have c13 := HC.out.later 0 _ rfl
          have c14 := HC.out.later 1 _ rfl
          have c15 := HD.out.later 0 _ rfl
          have c16 := HD.out.later 1 _ rfl
          have c17 := HE.out.later 0 _ rfl
          have c18 := HE.out.later 1 _ rfl
          have c19 := HE.out.later 2 _ rfl
          have c20 := HE.out.later 3 _ rfl
          have c21 := HE.out.later 4 _ rfl
          have c22 := HQB.out.later 0 _ rfl
          have c23 := HQB.out.later 1 _ rfl
          have c24 := HQB.out.later 2 _ rfl
          have c25 := HQB.out.later 3 _ rfl
          have c26 := HQB.out.later 4 _ rfl
          refine wp_region_later (by kernel_rfl) (by kernel_rfl) ?_
          repeat (go_big_quiet_step (first | (go_at_call 21; with_reducible exact Later.calls _ (rsame_no4 ⟨24, a1, len1, cap1, l1⟩ ⟨n2, a2, len2, cap2, l2⟩ (csBits ⟨ta, pa, ma, xa, ba⟩) (csBits ⟨tb, pb, mb, xb, bb⟩) _ (HY1.out.keeps (Later.keeps _)) (HY2.out.keeps (Later.keeps _)) HNE.out))))
          refine wpQuiet_nil ?_
          rintro _ ⟨k, rfl⟩
          have HKK := Lib.hid (HK.out.trans k.keeps)
          clear c1 c2 c3 c4 c5 c6 c7 c8 c9 c10 c11 c12 c13 c14 c15 c16 c17 c18 c19 c20 c21 c22 c23 c24 c25 c26
          go_wp2_with fail
          go_ret
          exact ⟨rfl, HKK.out⟩
end Go.Proofs.Ytdjbalaicfienaa
