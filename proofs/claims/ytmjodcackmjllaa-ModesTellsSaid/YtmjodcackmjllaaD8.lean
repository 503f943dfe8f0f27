/- The walk of ModesNone. -/
import Derived.Test.YtmjodcackmjllaaD6
import Derived.Test.YtmjodcackmjllaaD7
namespace Go.Proofs.Ytmjodcackmjllaa
open Go.RowKit Go.Shelf
set_option linter.unusedVariables false
set_option linter.unusedSimpArgs false
def csSame (a b : CS) : Bool := decide (a.t = b.t ∧ a.p = b.p ∧ a.m = b.m ∧ a.x = b.x ∧ a.b = b.b)
@[go_sem] theorem csSame_self (a : CS) : csSame a a = true := by simp [csSame]
theorem csSame_no {a b : CS} (h : a ≠ b) : csSame a b = false := by
  obtain ⟨t, p, m, x, c⟩ := a
  obtain ⟨t', p', m', x', c'⟩ := b
  simp only [ne_eq, CS.mk.injEq] at h
  exact decide_eq_false h
theorem eqCS (t p m x b t' p' m' x' b' : Int) (w : World) : (Op.equalIn 10000 27 (.agg #[.int .i64 t, .int .i64 p, .int .i64 m, .int .i64 x, .int .i64 b]) (.agg #[.int .i64 t', .int .i64 p', .int .i64 m', .int .i64 x', .int .i64 b'])).run Try.prog w = .ok (csSame ⟨t, p, m, x, b⟩ ⟨t', p', m', x', b'⟩) w := by
  have u3 := Try.underlying3
  have a3 := Try.isAgg3
  have z3 := Try.sizeOf3
  have hS : Try.prog.underlying 27 = some (.struct (Try.prog.fieldsOf 27)) := by kernel_rfl
  rw [show (10000 : Nat) = 9999 + 1 from rfl, run_equalIn_agg w 9999 27 _ _ hS (by kernel_rfl)]
  simp only [Program.fieldsOf, Try.underlying27]
  go_simp
  by_cases h1 : t = t' <;> by_cases h2 : p = p' <;> by_cases h3 : m = m' <;> by_cases h4 : x = x' <;> by_cases h5 : b = b' <;> simp [h1, h2, h3, h4, h5, csSame]
attribute [local go_sem ↓ high] eqCS
theorem mayP_none {m : RMedl} {c : CS} (h : nextsP m c = []) (hb : asksB m c = true) (k : Int) : mayP m c k = false := by
  cases hy : mayP m c k
  · rfl
  · exfalso
    have h2 := hy
    unfold mayP at h2
    simp only [Bool.and_eq_true] at h2
    have h3 := (mIn_iff m k).1 h2.1
    have h4 : ((k.toNat : Nat) : Int) = k := Int.toNat_of_nonneg h3.1
    have h5 := (mem_nextsP m c k.toNat).2 ⟨hb, by rw [h4]; exact hy⟩
    rw [h] at h5
    cases h5
theorem askR_none {m : RMedl} {c : CS} (h : nextsP m c = []) (k : Int) : (askR m c k).1 = 0 := by
  unfold askR
  cases hb : asksB m c
  · rfl
  · simp only [cond_true]
    cases decide (k = -1) || mIn m k
    · rfl
    · simp only [cond_true]
      cases decide (k < 0)
      · simp only [cond_false]
        unfold takenP
        rw [mayP_none h hb k]
        simp
      · rfl
theorem takeR_none {m : RMedl} {c : CS} (h : nextsP m c = []) (k : Int) : (takeR m c k).2 ≠ 0 ∨ (takeR m c k).1 = c := by
  unfold takeR
  cases hb : asksB m c
  · left
    have := asksB_E2 hb
    rw [bne_iff_ne] at this
    exact this
  · simp only [cond_true]
    cases decide (0 ≤ k) && decide (k ≤ m.xs.length)
    · left; show (100 : Int) ≠ 0; decide
    · right
      rw [mayP_none h hb (k - 1), Bool.and_false]
      rfl
set_option maxRecDepth 100000 in
set_option maxHeartbeats 4000000 in
theorem modesNone_any (m : RMedl) (c : CS) (k : Int) (w : World) (hm : m.In w) : Calls Try.prog 4 #[m.val, c.val, .int .i64 k] w fun e w' => e = .returned (.bool true) ∧ Keeps w w' := by
  have HM := Lib.hid hm
  clear hm
  have HAK := Lib.hid (askX_any m c k)
  have HTK := Lib.hid (takeX_any m c k)
  have HNF := Lib.hid (nextsf_any m c)
  have HTO : Hid (∀ w, m.In w → Calls Try.prog 17 #[.func (.func 57) #[] #[.pointer (some ⟨w.heap.size, 0, none⟩), .pointer (some ⟨w.heap.size + 1, 0, none⟩)], .int .i64 9] ((w.alloc (.cells #[.int .i64 m.nodes, .int .i64 m.slot, .int .i64 m.gap, .int .i64 m.window, .int .i64 m.drift, .int .i64 m.delay, m.cv, .slice m.ma m.mn m.mc] 25)).alloc (.cells #[.int .i64 c.t, .int .i64 c.p, .int .i64 c.m, .int .i64 c.x, .int .i64 c.b] 27)) fun e w' => ∃ v, e = .returned v ∧ Ints w' v (((nextsP m c).take 9).map fun j : Nat => (j : Int)) ∧ Keeps w w') := Lib.hid (fun w h => nexts_told m c w h 9 9 rfl (by decide))
  have HL4 := nextsP_le4 m c
  have H1 : Hid (nextsP m c = [] → (askR m c k).1 = 0) := Lib.hid (fun h => askR_none h k)
  have H2 : Hid (nextsP m c = [] → (takeR m c k).2 ≠ 0 ∨ (takeR m c k).1 = c) := Lib.hid (fun h => takeR_none h k)
  obtain ⟨NL, hNL⟩ : ∃ NL, NL = nextsP m c := ⟨_, rfl⟩
  rw [← hNL] at HTO HL4 H1 H2
  clear hNL
  obtain ⟨AR, hAR⟩ : ∃ AR, AR = askR m c k := ⟨_, rfl⟩
  rw [← hAR] at HAK H1
  clear hAR
  obtain ⟨TR, hTR⟩ : ∃ TR, TR = takeR m c k := ⟨_, rfl⟩
  rw [← hTR] at HTK H2
  clear hTR
  obtain ⟨r1, e1⟩ := AR
  obtain ⟨⟨xt, xp, xm, xx, xb⟩, e2⟩ := TR
  obtain ⟨ca, cc, hcv, hc1, hc2, hc3⟩ := HM.out.c.shape
  clear hc3
  have HX := Lib.hid HM.out.m
  obtain ⟨no, sl, ga, wi, dr, de, cv, cs, ma, mn, mc, xs⟩ := m
  obtain ⟨ct, cp, cm, cx, cb⟩ := c
  simp only at hcv hc1 HX H1 H2 HAK HTK HNF HTO
  have hlen := HX.out.len
  have hcap := HX.out.hcap
  have hmax := HX.out.hmax
  subst hlen hcv
  have HK := Lib.hid (((Keeps.refl w).alloc (.cells #[.int .i64 no, .int .i64 sl, .int .i64 ga, .int .i64 wi, .int .i64 dr, .int .i64 de, .slice ca cs.length cc, .slice ma xs.length mc] 25)).alloc (.cells #[.int .i64 ct, .int .i64 cp, .int .i64 cm, .int .i64 cx, .int .i64 cb] 27))
  have HB := Lib.hid ((Box.new w 25 #[.int .i64 no, .int .i64 sl, .int .i64 ga, .int .i64 wi, .int .i64 dr, .int .i64 de, .slice ca cs.length cc, .slice ma xs.length mc]).next (.cells #[.int .i64 ct, .int .i64 cp, .int .i64 cm, .int .i64 cx, .int .i64 cb] 27))
  have hz := Box.new (w.alloc (.cells #[.int .i64 no, .int .i64 sl, .int .i64 ga, .int .i64 wi, .int .i64 dr, .int .i64 de, .slice ca cs.length cc, .slice ma xs.length mc] 25)) 27 #[.int .i64 ct, .int .i64 cp, .int .i64 cm, .int .i64 cx, .int .i64 cb]
  rw [World.size_alloc] at hz
  have HA := Lib.hid hz
  clear hz
  show Calls Try.prog 4 #[.agg #[.int .i64 no, .int .i64 sl, .int .i64 ga, .int .i64 wi, .int .i64 dr, .int .i64 de, .slice ca cs.length cc, .slice ma xs.length mc], .agg #[.int .i64 ct, .int .i64 cp, .int .i64 cm, .int .i64 cx, .int .i64 cb], .int .i64 k] w _
  go_enter Try.func4, Try.ntmps4
  go_wp2_with fail
  (with_reducible refine (begun10_any _).mono ?_)
  rintro e w1 ⟨rfl, hk1⟩
  replace HB := Lib.hid (HB.out.keeps hk1)
  replace HA := Lib.hid (HA.out.keeps hk1)
  replace HK := Lib.hid (HK.out.trans hk1)
  clear hk1
  have m0 := HB.out.cell 0 _ rfl
  have m1 := HB.out.cell 1 _ rfl
  have m2 := HB.out.cell 2 _ rfl
  have m3 := HB.out.cell 3 _ rfl
  have m4 := HB.out.cell 4 _ rfl
  have m5 := HB.out.cell 5 _ rfl
  have m6 := HB.out.cell 6 _ rfl
  have m7 := HB.out.cell 7 _ rfl
  have ml := HB.out.lt
  have c0 := HA.out.cell 0 _ rfl
  have c1 := HA.out.cell 1 _ rfl
  have c2 := HA.out.cell 2 _ rfl
  have c3 := HA.out.cell 3 _ rfl
  have c4 := HA.out.cell 4 _ rfl
  have cl := HA.out.lt
  by_cases h20 : xs.length ≤ 20
  case neg =>
    have d1 : decide (20 < xs.length) = true := decide_eq_true (by omega)
    have d2 : decide ((20 : Int) < (xs.length : Int)) = true := by simp; omega
    go_wp2_with fail
    (with_reducible refine (begun10_any _).mono ?_)
    rintro e w2 ⟨rfl, hk1⟩
    replace HK := Lib.hid (HK.out.trans hk1)
    clear hk1
    go_wp2_with fail
    go_ret
    exact ⟨rfl, HK.out⟩
  have d1 : decide (20 < xs.length) = false := decide_eq_false (by omega)
  have d2 : decide ((20 : Int) < (xs.length : Int)) = false := by simp; omega
  go_wp2_with fail
  (with_reducible refine (HNF.out _).mono ?_)
  rintro e w2 ⟨rfl, rfl⟩
  go_wp2_with fail
  (with_reducible refine (HTO.out _ (by exact HM.out.keeps HK.out)).mono ?_)
  rintro e w2 ⟨v, rfl, hv, hk1⟩
  replace HB := Lib.hid (HB.out.keeps hk1)
  replace HA := Lib.hid (HA.out.keeps hk1)
  replace HK := Lib.hid (HK.out.trans hk1)
  clear hk1 m0 m1 m2 m3 m4 m5 m6 m7 ml c0 c1 c2 c3 c4 cl
  have m0 := HB.out.cell 0 _ rfl
  have m1 := HB.out.cell 1 _ rfl
  have m2 := HB.out.cell 2 _ rfl
  have m3 := HB.out.cell 3 _ rfl
  have m4 := HB.out.cell 4 _ rfl
  have m5 := HB.out.cell 5 _ rfl
  have m6 := HB.out.cell 6 _ rfl
  have m7 := HB.out.cell 7 _ rfl
  have ml := HB.out.lt
  have c0 := HA.out.cell 0 _ rfl
  have c1 := HA.out.cell 1 _ rfl
  have c2 := HA.out.cell 2 _ rfl
  have c3 := HA.out.cell 3 _ rfl
  have c4 := HA.out.cell 4 _ rfl
  have cl := HA.out.lt
  obtain ⟨va, vc, rfl, hv1, hv2, -⟩ := hv.shape
  rw [List.length_map, List.length_take] at hv1 ⊢
  obtain ⟨L, hL⟩ : ∃ L, L = min 9 NL.length := ⟨_, rfl⟩
  rw [← hL] at hv1 ⊢
  have hLN : L = NL.length := by omega
  clear hv hL
  by_cases h0 : L = 0
  case neg =>
    have d3 : (L != 0) = true := by rw [bne_iff_ne]; exact h0
    have d4 : ((L : Int) != 0) = true := by rw [bne_iff_ne]; omega
    have d5 : ((L : Int) == 0) = false := by rw [beq_eq_false_iff_ne]; omega
    have d6 : (L == 0) = false := by rw [beq_eq_false_iff_ne]; exact h0
    clear HL4 hLN
    go_wp2_with fail
    (with_reducible refine (begun10_any _).mono ?_)
    rintro e w3 ⟨rfl, hk1⟩
    replace HK := Lib.hid (HK.out.trans hk1)
    clear hk1
    go_wp2_with fail
    go_ret
    exact ⟨rfl, HK.out⟩
  subst h0
  have hN0 : NL = [] := List.eq_nil_of_length_eq_zero hLN.symm
  have h1 := H1.out hN0
  have h2 := H2.out hN0
  clear H1 H2 hN0 hLN HL4
  subst h1
  have HX2 := Lib.hid h2
  clear h2
  go_wp2_with fail
  (with_reducible refine (HAK.out _ (by exact HM.out.keeps HK.out)).mono ?_)
  rintro e w3 ⟨rfl, hk1⟩
  replace HB := Lib.hid (HB.out.keeps hk1)
  replace HA := Lib.hid (HA.out.keeps hk1)
  replace HK := Lib.hid (HK.out.trans hk1)
  clear hk1 m0 m1 m2 m3 m4 m5 m6 m7 ml c0 c1 c2 c3 c4 cl
  have m0 := HB.out.cell 0 _ rfl
  have m1 := HB.out.cell 1 _ rfl
  have m2 := HB.out.cell 2 _ rfl
  have m3 := HB.out.cell 3 _ rfl
  have m4 := HB.out.cell 4 _ rfl
  have m5 := HB.out.cell 5 _ rfl
  have m6 := HB.out.cell 6 _ rfl
  have m7 := HB.out.cell 7 _ rfl
  have ml := HB.out.lt
  have c0 := HA.out.cell 0 _ rfl
  have c1 := HA.out.cell 1 _ rfl
  have c2 := HA.out.cell 2 _ rfl
  have c3 := HA.out.cell 3 _ rfl
  have c4 := HA.out.cell 4 _ rfl
  have cl := HA.out.lt
  go_wp2_with fail
  (with_reducible refine (HTK.out _ (by exact HM.out.keeps HK.out)).mono ?_)
  rintro e w4 ⟨rfl, hk1⟩
  replace HB := Lib.hid (HB.out.keeps hk1)
  replace HA := Lib.hid (HA.out.keeps hk1)
  replace HK := Lib.hid (HK.out.trans hk1)
  clear hk1 m0 m1 m2 m3 m4 m5 m6 m7 ml c0 c1 c2 c3 c4 cl
  have m0 := HB.out.cell 0 _ rfl
  have m1 := HB.out.cell 1 _ rfl
  have m2 := HB.out.cell 2 _ rfl
  have m3 := HB.out.cell 3 _ rfl
  have m4 := HB.out.cell 4 _ rfl
  have m5 := HB.out.cell 5 _ rfl
  have m6 := HB.out.cell 6 _ rfl
  have m7 := HB.out.cell 7 _ rfl
  have ml := HB.out.lt
  have c0 := HA.out.cell 0 _ rfl
  have c1 := HA.out.cell 1 _ rfl
  have c2 := HA.out.cell 2 _ rfl
  have c3 := HA.out.cell 3 _ rfl
  have c4 := HA.out.cell 4 _ rfl
  have cl := HA.out.lt
  by_cases he2 : e2 = 0
  case neg =>
    have d3 : (e2 != 0) = true := by rw [bne_iff_ne]; exact he2
    clear HX2 he2
    by_cases he1 : e1 = 0
    · subst he1
      go_wp2_with fail
      go_ret
      exact ⟨rfl, HK.out.alloc _⟩
    · have d4 : (e1 == 0) = false := by rw [beq_eq_false_iff_ne]; exact he1
      clear he1
      go_wp2_with fail
      go_ret
      exact ⟨rfl, HK.out.alloc _⟩
  subst he2
  have hxc := HX2.out.resolve_left (by simp)
  simp only [CS.mk.injEq] at hxc
  obtain ⟨rfl, rfl, rfl, rfl, rfl⟩ := hxc
  clear HX2
  have hss := csSame_self ⟨xt, xp, xm, xx, xb⟩
  by_cases he1 : e1 = 0
  · subst he1
    go_wp2_with fail
    go_ret
    exact ⟨rfl, HK.out.alloc _⟩
  · have d4 : (e1 == 0) = false := by rw [beq_eq_false_iff_ne]; exact he1
    clear he1
    go_wp2_with fail
    go_ret
    exact ⟨rfl, HK.out.alloc _⟩
end Go.Proofs.Ytmjodcackmjllaa
