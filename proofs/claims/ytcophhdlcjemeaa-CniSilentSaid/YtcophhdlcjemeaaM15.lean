/- The walk of law 20's begun. -/
import Derived.Test.YtcophhdlcjemeaaM12
import Derived.Test.YtcophhdlcjemeaaM14
namespace Go.Proofs.Ytcophhdlcjemeaa
open Go.RowKit Go.Shelf
set_option linter.unusedVariables false
set_option linter.unusedSimpArgs false
theorem medlOk_plain {n dr : Int} {w : World} {m : RMedl} (h : PlainM n dr w m) (h1 : 4 ≤ n) (h2 : n ≤ 8) (h3 : 0 ≤ dr) (h4 : dr ≤ 64) : medlOk m = true := by
  have hair : 34 ≤ m.mair ∧ m.mair ≤ 4000 := mairI_le _ _
  have e1 := h.nodes
  have e2 := h.drift
  have e3 := h.delay
  have e4 := h.window
  have e5 := h.gap
  have e6 := h.slot
  have e7 := h.cs
  obtain ⟨x, e8, x1, x2, x3⟩ := h.xs
  have hp : 0 ≤ n * dr := Int.mul_nonneg (by omega) h3
  have hp2 : n * dr ≤ 8 * 64 := Int.mul_le_mul h2 h4 h3 (by omega)
  rw [Int.mul_assoc] at e4
  have hn : ((n.toNat : Nat) : Int) = n := Int.toNat_of_nonneg (by omega)
  refine (medlOk_iff m).2 ⟨(countsOk_iff m).2 ⟨by omega, by omega, by rw [e8, List.length_singleton]; decide, by rw [e8, List.length_singleton]; decide, by rw [e7, List.length_replicate]; omega, ?_⟩, modesOk_yes m ?_, (numsOk_iff m).2 ?_⟩
  · rw [e7, List.length_replicate]
    unfold truesTo
    rw [List.take_replicate, Nat.min_self, List.filter_replicate]
    simp
    omega
  · intro y hy
    rw [e8, List.mem_singleton] at hy
    subst hy
    unfold modeOk
    rw [decide_eq_true, decide_eq_true]
    · rfl
    · intro k hk
      rw [x1, List.length_replicate] at hk
      refine ⟨?_, fun _ => ?_⟩
      · rw [x1, List.getD_eq_getElem?_getD, List.getElem?_replicate, if_pos hk]; rfl
      · rw [x2, List.getD_eq_getElem?_getD, List.getElem?_replicate, if_pos hk]; rfl
    · rw [x1, x2, x3, List.length_replicate, List.length_replicate, e1, e8]
      exact ⟨hn, hn, rfl⟩
  · rw [e1, e2, Int.mul_assoc]
    omega
def spanSame (a b c d : Int) : Bool := decide (a = c ∧ b = d)
@[go_sem] theorem spanSame_self (a b : Int) : spanSame a b a b = true := by simp [spanSame]
theorem eqSpan (a b c d : Int) (w : World) : (Op.equalIn 10000 30 (.agg #[.int .i64 a, .int .i64 b]) (.agg #[.int .i64 c, .int .i64 d])).run Try.prog w = .ok (spanSame a b c d) w := by
  have u3 := Try.underlying2
  have a3 := Try.isAgg2
  have z3 := Try.sizeOf2
  have hS : Try.prog.underlying 30 = some (.struct (Try.prog.fieldsOf 30)) := by kernel_rfl
  rw [show (10000 : Nat) = 9999 + 1 from rfl, run_equalIn_agg w 9999 30 _ _ hS (by kernel_rfl)]
  simp only [Program.fieldsOf, Try.underlying30]
  go_simp
  by_cases h1 : a = c <;> by_cases h2 : b = d <;> simp [h1, h2, spanSame]
attribute [local go_sem ↓ high] eqSpan
def clk100 : RClk := ⟨100, 0, .slice none 0 0, []⟩
theorem clk100_in (w : World) : clk100.In w := ⟨⟨none, 0, rfl, Nat.le_refl _, by decide, RowV.nil _ _⟩⟩
theorem open_plain {w : World} {m : RMedl} (h : PlainM 4 0 w m) : openRes m clk100 0 2 2 = (122, 154 + m.mair, 0) ∧ openRes m clk100 0 2 1 = (0, 0, 0) := by
  have h0 : clkErr m clk100 = 0 := by
    unfold clkErr
    rw [medlOk_plain h (by decide) (by decide) (by decide) (by decide)]
    rfl
  have hair : 34 ≤ m.mair ∧ m.mair ≤ 4000 := mairI_le _ _
  have e1 := h.nodes
  have e3 := h.delay
  have e4 := h.window
  have e5 := h.gap
  have w16 : m.window = 16 := by rw [e4]; rfl
  have g38 : m.gap = 38 := by rw [e5, w16, e3]; rfl
  have a1 : openArgs m 0 2 2 := by unfold openArgs; rw [e1, w16]; decide
  have a2 : openArgs m 0 2 1 := by unfold openArgs; rw [e1, w16]; decide
  unfold openRes
  rw [if_pos h0, if_pos a1, if_pos rfl, if_pos h0, if_pos a2, if_neg (by decide), w16, g38]
  refine ⟨?_, rfl⟩
  show (max ((100 : Int) + 0 + 38 - 16) 0, (100 : Int) + 0 + 38 + m.mair + 16, (0 : Int)) = _
  rw [show max ((100 : Int) + 0 + 38 - 16) 0 = 122 by decide, show (100 : Int) + 0 + 38 + m.mair + 16 = 154 + m.mair by omega]
set_option maxRecDepth 100000 in
set_option maxHeartbeats 2000000 in
theorem begun20_any (w : World) :
    Calls Try.prog 14 #[] w fun e w' => e = .returned (.bool true) ∧ Keeps w w' := by
  go_enter Try.func14, Try.ntmps14
  go_wp2_with fail
  with_reducible refine (rplain_any 4 0 _ (by decide) (by decide) (by decide) (by decide)).mono ?_
  rintro e w1 ⟨m, rfl, hm, hk1⟩
  have HO1 := Lib.hid (open_plain hm).1
  have HO2 := Lib.hid (open_plain hm).2
  have HI := Lib.hid hm.isIn
  have hair : 34 ≤ m.mair ∧ m.mair ≤ 4000 := mairI_le _ _
  clear hm
  have HC1 : Hid (∀ w' : World, m.In w' → Calls Try.prog 12 #[m.val, .agg #[.int .i64 100, .int .i64 0, .slice none 0 0], .int .i64 0, .int .i64 2, .int .i64 2] w' fun e w'' => e = .returned (.tuple #[.agg #[.int .i64 122, .int .i64 (154 + m.mair)], .int .i64 0]) ∧ Keeps w' w'') := fun w' hi => by
    have h := open_any m clk100 0 2 2 w' hi (clk100_in w')
    rw [HO1.out] at h
    exact h
  have HC2 : Hid (∀ w' : World, m.In w' → Calls Try.prog 12 #[m.val, .agg #[.int .i64 100, .int .i64 0, .slice none 0 0], .int .i64 0, .int .i64 2, .int .i64 1] w' fun e w'' => e = .returned (.tuple #[.agg #[.int .i64 0, .int .i64 0], .int .i64 0]) ∧ Keeps w' w'') := fun w' hi => by
    have h := open_any m clk100 0 2 1 w' hi (clk100_in w')
    rw [HO2.out] at h
    exact h
  clear HO1 HO2
  have HAI := Lib.hid (rmair_any m)
  have HK := Lib.hid hk1
  clear hk1
  obtain ⟨A, hA⟩ : ∃ A, A = m.mair := ⟨_, rfl⟩
  rw [← hA] at HC1 HAI hair
  clear hA
  obtain ⟨ca, cc, hcv, hc1, hc2, hc3⟩ := HI.out.c.shape
  clear hc3
  obtain ⟨no, sl, ga, wi, dr, de, cv, cs, ma, mn, mc, xs⟩ := m
  simp only at hcv hc1
  subst hcv
  go_wp2_with fail
  with_reducible refine (HC1.out _ (by exact HI.out.keeps ((Keeps.refl w1).alloc _))).mono ?_
  rintro e w2 ⟨rfl, hk2⟩
  have HB := Lib.hid ((Box.new w1 25 #[.int .i64 no, .int .i64 sl, .int .i64 ga, .int .i64 wi, .int .i64 dr, .int .i64 de, .slice ca cs.length cc, .slice ma mn mc]).keeps hk2)
  replace HI := Lib.hid ((HI.out.keeps ((Keeps.refl w1).alloc (.cells #[.int .i64 no, .int .i64 sl, .int .i64 ga, .int .i64 wi, .int .i64 dr, .int .i64 de, .slice ca cs.length cc, .slice ma mn mc] 25))).keeps hk2)
  replace HK := Lib.hid ((HK.out.alloc _).trans hk2)
  clear hk2
  have m0 := HB.out.cell 0 _ rfl
  have m1 := HB.out.cell 1 _ rfl
  have m2 := HB.out.cell 2 _ rfl
  have m3 := HB.out.cell 3 _ rfl
  have m4 := HB.out.cell 4 _ rfl
  have m5 := HB.out.cell 5 _ rfl
  have m6 := HB.out.cell 6 _ rfl
  have m7 := HB.out.cell 7 _ rfl
  have ml := HB.out.lt
  go_wp2_with fail
  with_reducible refine (HC2.out _ (by exact HI.out.keeps ((Keeps.refl w2).alloc _))).mono ?_
  rintro e w3 ⟨rfl, hk3⟩
  have HS := Lib.hid ((Box.new w2 30 #[.int .i64 122, .int .i64 (154 + A)]).keeps hk3)
  replace HB := Lib.hid ((HB.out.next (.cells #[.int .i64 122, .int .i64 (154 + A)] 30)).keeps hk3)
  replace HI := Lib.hid ((HI.out.keeps ((Keeps.refl w2).alloc (.cells #[.int .i64 122, .int .i64 (154 + A)] 30))).keeps hk3)
  replace HK := Lib.hid ((HK.out.alloc _).trans hk3)
  clear hk3 m0 m1 m2 m3 m4 m5 m6 m7 ml
  go_wp2_with fail
  have HX := Lib.hid (Box.new w3 30 #[.int .i64 0, .int .i64 0])
  replace HB := Lib.hid (HB.out.next (.cells #[.int .i64 0, .int .i64 0] 30))
  replace HS := Lib.hid (HS.out.next (.cells #[.int .i64 0, .int .i64 0] 30))
  replace HI := Lib.hid (HI.out.keeps ((Keeps.refl w3).alloc (.cells #[.int .i64 0, .int .i64 0] 30)))
  replace HK := Lib.hid (HK.out.alloc (.cells #[.int .i64 0, .int .i64 0] 30))
  have c0 := HB.out.later 0 _ rfl
  have c1 := HB.out.later 1 _ rfl
  have c2 := HB.out.later 2 _ rfl
  have c3 := HB.out.later 3 _ rfl
  have c4 := HB.out.later 4 _ rfl
  have c5 := HB.out.later 5 _ rfl
  have c6 := HB.out.later 6 _ rfl
  have c7 := HB.out.later 7 _ rfl
  have s0 := HS.out.later 0 _ rfl
  have s1 := HS.out.later 1 _ rfl
  have x0 := HX.out.later 0 _ rfl
  have x1 := HX.out.later 1 _ rfl
  have hw : IntKind.i64.wrap (154 + A) = 154 + A := by simp [IntKind.wrap, IntKind.bits, IntKind.signed]; omega
  refine wp_region_later (by kernel_rfl) (by kernel_rfl) ?_
  repeat (go_big_quiet_step (first | (go_at_call 46; with_reducible exact Later.calls _ (HAI.out _ (HI.out.keeps (Later.keeps _))))))
  refine wpQuiet_nil ?_
  rintro _ ⟨q, rfl⟩
  have HKK := Lib.hid (HK.out.trans q.keeps)
  clear c0 c1 c2 c3 c4 c5 c6 c7 s0 s1 x0 x1
  go_wp2_with fail
  go_ret
  exact ⟨rfl, HKK.out⟩
end Go.Proofs.Ytcophhdlcjemeaa
