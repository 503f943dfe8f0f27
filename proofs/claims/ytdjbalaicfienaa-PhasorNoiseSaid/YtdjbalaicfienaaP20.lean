/- The walks of layer 3, 14: the reference's Decode. -/
import Derived.Test.YtdjbalaicfienaaP19
import Derived.Test.YtdjbalaicfienaaW14
namespace Go.Proofs.Ytdjbalaicfienaa
open Go.RowKit
set_option linter.unusedVariables false
set_option linter.unusedSimpArgs false
set_option maxRecDepth 100000 in
set_option maxHeartbeats 8000000 in
theorem rdecode_any (a : Option Addr) (n cap : Nat) (xs : List Smp) (at_ q : Int) (w : World) (hx : SRow w a n cap xs) (hn : n ≤ 100000) (h1 : -9223372036854775808 ≤ q) (h2 : q ≤ 9223372036854775807) :
    Calls Try.prog 56 #[.slice a n cap, .int .i64 at_, .int .i64 q] w fun e w' => Res w w' e (decRes xs at_ q) := by
  have HX := Lib.hid hx
  have HZ := Lib.hid (Box.new w 26 #[.int .i64 0, .slice none 0 0])
  have HK0 : Hid (Keeps w (w.alloc (Obj.cells #[.int .i64 0, .slice none 0 0] 26))) := Lib.hid ((Keeps.refl w).alloc _)
  have z0 := HZ.out.cell 0 _ rfl
  have z1 := HZ.out.cell 1 _ rfl
  have zf := HZ.out.frozen
  have hcap := hx.hcap
  have hlen := hx.len
  subst hlen
  by_cases h0 : at_ < 0
  · have HR := Lib.hid (decRes_neg xs at_ q h0)
    have d1 : decide (at_ < 0) = true := decide_eq_true h0
    go_enter Try.func56, Try.ntmps56
    go_wp2_with fail
    refine bodyPost_ret (v := .tuple #[RB.zero.val, .int .i64 2]) (by simp [results, Try.results56, go_sem, RB.val, RB.zero, *]) rfl (Res.no2 HR.out ⟨rfl, ?_⟩)
    repeat (with_reducible refine Keeps.setCell ?_ (by first | (simp; done) | (simp; omega) | exact Nat.le_refl _) _)
    exact (Keeps.refl w).alloc _
  by_cases hc : (xs.length : Int) - 14 < at_
  · have HR := Lib.hid (decRes_cut xs at_ q (by omega) hc)
    have d1 : decide (at_ < 0) = false := decide_eq_false h0
    have d2 : decide ((xs.length : Int) - 14 < at_) = true := decide_eq_true hc
    clear h0 hc
    go_enter Try.func56, Try.ntmps56
    go_wp2_with fail
    refine bodyPost_ret (v := .tuple #[RB.zero.val, .int .i64 32]) (by simp [results, Try.results56, go_sem, RB.val, RB.zero, *]) rfl (Res.no2 HR.out ⟨rfl, ?_⟩)
    repeat (with_reducible refine Keeps.setCell ?_ (by first | (simp; done) | (simp; omega) | exact Nat.le_refl _) _)
    exact (Keeps.refl w).alloc _
  obtain ⟨t, rfl⟩ : ∃ t : Nat, at_ = t := ⟨at_.toNat, by omega⟩
  have h : t + 14 ≤ xs.length := by omega
  have HR := Lib.hid (decRes_nat xs t q h)
  obtain ⟨a1, cap1, e1, hs1⟩ := sub_lh a xs.length cap (t + 8) (t + 14) ((t : Int) + 8) ((t : Int) + 14) (by omega) (by omega) (by omega) h hcap
  have HS1 := Lib.hid (hs1 w xs hx)
  obtain ⟨a2, cap2, e2, hs2⟩ := sub_l a xs.length cap (t + 14) ((t : Int) + 14) (by omega) (by omega) hcap
  have HS2 := Lib.hid (hs2 w xs hx)
  rw [show t + 14 - (t + 8) = 6 by omega] at e1 HS1
  have dA : decide ((t : Int) < 0) = false := decide_eq_false (by omega)
  have dB : decide ((xs.length : Int) - 14 < (t : Int)) = false := decide_eq_false (by omega)
  have i1 : IntKind.i64.wrap ((t : Int) + 8) = (t : Int) + 8 := by simp [IntKind.wrap, IntKind.bits, IntKind.signed]; omega
  have i2 : IntKind.i64.wrap ((t : Int) + 14) = (t : Int) + 14 := by simp [IntKind.wrap, IntKind.bits, IntKind.signed]; omega
  clear hs1 hs2 hx h0 hc
  go_enter Try.func56, Try.ntmps56
  go_wp2_with fail
  with_reducible refine (mays_any a1 6 cap1 _ _ (HS1.out.keeps HK0.out)).mono ?_
  rintro e w4 ⟨rfl, hk4⟩
  have HK4 := Lib.hid (HK0.out.trans hk4)
  have HZ4 := Lib.hid (HZ.out.keeps hk4)
  have z04 := HZ4.out.cell 0 _ rfl
  have z14 := HZ4.out.cell 1 _ rfl
  have zf4 := HZ4.out.frozen
  clear hk4
  cases hall : allB (partS xs (t + 8) (t + 14)) with
  | false =>
    go_wp2_with fail
    rw [hall] at HR
    refine bodyPost_ret (v := .tuple #[RB.zero.val, .int .i64 31]) (by simp [results, Try.results56, go_sem, RB.val, RB.zero, *]) rfl (Res.no2 HR.out ⟨rfl, ?_⟩)
    repeat (with_reducible refine Keeps.setCell ?_ (by first | (simp; done) | (simp; omega) | exact Nat.le_refl _) _)
    exact HK4.out
  | true =>
    go_wp2_with fail
    with_reducible refine (rbits_any a1 6 cap1 _ q _ (HS1.out.keeps HK4.out) hall (by omega) h1 h2).mono ?_
    rintro e w5 ⟨v5, rfl, ho5, hk5⟩
    have HK5 := Lib.hid (HK4.out.trans hk5)
    have HZ5 := Lib.hid (HZ4.out.keeps hk5)
    have HB5 : Hid (Bools w5 v5 (rdTo (partS xs (t + 8) (t + 14)) (backK q) 6)) := Lib.hid ho5.bools
    clear hk5 ho5
    go_wp2_with fail
    have hlt : (rdTo (partS xs (t + 8) (t + 14)) (backK q) 6).length = 12 := by
      rw [rdTo_len _ _ _ (by rw [partS_len _ _ _ h]; omega)]
    with_reducible refine (rof_any v5 _ _ HB5.out).mono ?_
    rw [show ofRes (rdTo (partS xs (t + 8) (t + 14)) (backK q) 6) = (rdTo (partS xs (t + 8) (t + 14)) (backK q) 6, 0) from if_pos (by rw [hlt]; decide)]
    rintro e w6 ⟨y6, rfl, hy6, hf6, hk6⟩
    have HK6 := Lib.hid (HK5.out.trans hk6)
    have HZ6 := Lib.hid (HZ5.out.keeps hk6)
    obtain ⟨a6, cap6, rfl⟩ := hy6.shape
    have HY6 := Lib.hid hy6
    rw [hlt] at HY6
    simp only [RB.val, hlt, Int.cast_ofNat_Int]
    clear hk6 hy6 hf6
    have z06 := HZ6.out.cell 0 _ rfl
    have z16 := HZ6.out.cell 1 _ rfl
    have zf6 := HZ6.out.frozen
    go_wp2_with fail
    have hNlt := headN_lt xs t (backK q) h
    have hNd : getTo (rdTo (partS xs (t + 8) (t + 14)) (backK q) 6) 0 12 = headN xs t (backK q) := rfl
    have HB0 := Lib.hid ((Keeps.refl w6).alloc (.cells #[.int .i64 12, .slice a6 2 cap6] 26))
    have hyS : RB.Is ⟨12, a6, 2, cap6, pack (rdTo (partS xs (t + 8) (t + 14)) (backK q) 6)⟩ (w6.alloc (.cells #[.int .i64 12, .slice a6 2 cap6] 26)) (rdTo (partS xs (t + 8) (t + 14)) (backK q) 6) := HY6.out.keeps HB0.out
    with_reducible refine (rget_ok ⟨12, a6, 2, cap6, pack (rdTo (partS xs (t + 8) (t + 14)) (backK q) 6)⟩ _ 0 12 0 12 _ rfl rfl hyS (by decide) (by rw [hlt]; decide)).mono ?_
    rintro e w7 ⟨rfl, hk7⟩
    rw [hNd]
    have HK7 : Hid (Keeps w w7) := Lib.hid (HK6.out.trans (HB0.out.trans hk7))
    have HZ7 := Lib.hid (HZ6.out.keeps (HB0.out.trans hk7))
    have z07 := HZ7.out.cell 0 _ rfl
    have z17 := HZ7.out.cell 1 _ rfl
    have zf7 := HZ7.out.frozen
    generalize hNN : headN xs t (backK q) = N at *
    clear hk7
    have j1 : IntKind.i64.wrap (N : Int) = (N : Int) := by simp [IntKind.wrap, IntKind.bits, IntKind.signed]; omega
    have j2 : IntKind.i64.wrap ((N : Int) + 1) = (N : Int) + 1 := by simp [IntKind.wrap, IntKind.bits, IntKind.signed]; omega
    have j3 : ((N : Int) + 1).tdiv 2 = ((N + 1) / 2 : Nat) := by rw [Int.tdiv_eq_ediv_of_nonneg (by omega)]; omega
    obtain ⟨M, hM⟩ : ∃ M, (N + 1) / 2 = M := ⟨_, rfl⟩
    obtain ⟨L, hL⟩ : ∃ L, xs.length - (t + 14) = L := ⟨_, rfl⟩
    obtain ⟨P, hP⟩ : ∃ P, 2 * M = P := ⟨_, rfl⟩
    have j4 : ((N : Int) + 1) / 2 = (M : Int) := by omega
    rw [hM] at j3 HR
    rw [hL] at e2 HS2 HR
    by_cases hcut : L < M
    · have dC : decide ((L : Int) < (M : Int)) = true := decide_eq_true (by omega)
      rw [if_pos hcut, hall] at HR
      go_wp2_with fail
      refine bodyPost_ret (v := .tuple #[RB.zero.val, .int .i64 32]) (by simp [results, Try.results56, go_sem, RB.val, RB.zero, *]) rfl (Res.no2 HR.out ⟨rfl, ?_⟩)
      repeat (with_reducible refine Keeps.setCell ?_ (by first | (simp; done) | (simp; omega) | exact Nat.le_refl _) _)
      exact HK7.out
    · have dC : decide ((L : Int) < (M : Int)) = false := decide_eq_false (by omega)
      rw [if_neg hcut, hall] at HR
      obtain ⟨a3, cap3, e3, hs3⟩ := sub_h a2 L cap2 M (M : Int) rfl (by omega) HS2.out.hcap
      have HS3 := Lib.hid (hs3 _ _ HS2.out)
      clear hs3
      have hpl : (partS (partS xs (t + 14) xs.length) 0 M).length = M := HS3.out.len
      generalize hrest : partS (partS xs (t + 14) xs.length) 0 M = r at *
      go_wp2_with fail
      with_reducible refine (mays_any a3 M cap3 r _ (HS3.out.keeps HK7.out)).mono ?_
      rintro e w8 ⟨rfl, hk8⟩
      have HK8 := Lib.hid (HK7.out.trans hk8)
      have HZ8 := Lib.hid (HZ7.out.keeps hk8)
      have z08 := HZ8.out.cell 0 _ rfl
      have z18 := HZ8.out.cell 1 _ rfl
      have zf8 := HZ8.out.frozen
      clear hk8
      cases hal2 : allB r with
      | false =>
        go_wp2_with fail
        have HR2 : Hid (decRes xs t q = ([], 31)) := Lib.hid (by rw [HR.out]; unfold restRes; rw [hal2]; rfl)
        refine bodyPost_ret (v := .tuple #[RB.zero.val, .int .i64 31]) (by simp [results, Try.results56, go_sem, RB.val, RB.zero, *]) rfl (Res.no2 HR2.out ⟨rfl, ?_⟩)
        repeat (with_reducible refine Keeps.setCell ?_ (by first | (simp; done) | (simp; omega) | exact Nat.le_refl _) _)
        exact HK8.out
      | true =>
        go_wp2_with fail
        with_reducible refine (rbits_any a3 M cap3 r q _ (HS3.out.keeps HK8.out) hal2 (by omega) h1 h2).mono ?_
        rintro e w9 ⟨v9, rfl, ho9, hk9⟩
        have HK9 := Lib.hid (HK8.out.trans hk9)
        have HZ9 := Lib.hid (HZ8.out.keeps hk9)
        have z09 := HZ9.out.cell 0 _ rfl
        have z19 := HZ9.out.cell 1 _ rfl
        have zf9 := HZ9.out.frozen
        have HB9 := Lib.hid ho9.bools
        clear hk9 ho9
        obtain ⟨a9, cap9, rfl, c1, c2, c3⟩ := HB9.out.shape
        have hlr : (rdTo r (backK q) M).length = P := by rw [← hP]; exact rdTo_len _ _ _ (by omega)
        rw [hlr] at c1
        have HT : Hid (Bools w9 (.slice a9 N cap9) ((rdTo r (backK q) M).take N)) := Lib.hid (by
          have h9 := HB9.out
          rw [hlr] at h9
          exact h9.takeN N (by omega))
        have e9 := sub_bools .i64 a9 P cap9 N (N : Int) rfl (by omega) (by omega)
        by_cases hodd : N < P
        · have dO : decide ((N : Int) < (P : Int)) = true := decide_eq_true (by omega)
          obtain ⟨b9, off9, rfl, hcell, hlt9⟩ := c3.boolAt (by omega)
          have hcN := hcell N (by omega)
          have HRR := Lib.hid (show decRes xs t q = cond ((rdTo r (backK q) M).getD N false) ([], 33) ((rdTo r (backK q) M).take N, 0) by
            rw [HR.out]; unfold restRes; rw [hal2, hpl, hP, decide_eq_true hodd, Bool.true_and]; rfl)
          clear hcell
          cases hb : (rdTo r (backK q) M).getD N false with
          | true =>
            rw [hb] at hcN HRR
            go_wp2_with fail
            refine bodyPost_ret (v := .tuple #[RB.zero.val, .int .i64 33]) (by simp [results, Try.results56, go_sem, RB.val, RB.zero, *]) rfl (Res.no2 HRR.out ⟨rfl, ?_⟩)
            repeat (with_reducible refine Keeps.setCell ?_ (by first | (simp; done) | (simp; omega) | exact Nat.le_refl _) _)
            exact HK9.out
          | false =>
            rw [hb] at hcN HRR
            go_wp2_with fail
            have hlN : ((rdTo r (backK q) M).take N).length = N := by rw [List.length_take, hlr]; omega
            with_reducible refine (rof_any _ _ _ HT.out).mono ?_
            rw [show ofRes ((rdTo r (backK q) M).take N) = ((rdTo r (backK q) M).take N, 0) from if_pos (by rw [hlN]; omega)]
            rintro e w10 ⟨y10, rfl, hy10, hf10, hk10⟩
            have HK10 := Lib.hid (HK9.out.trans hk10)
            have HZ10 := Lib.hid (HZ9.out.keeps hk10)
            have z010 := HZ10.out.cell 0 _ rfl
            have z110 := HZ10.out.cell 1 _ rfl
            have zf10 := HZ10.out.frozen
            have hs9 := HZ9.out.lt
            clear hk10
            obtain ⟨a10, cap10, rfl⟩ := hy10.shape
            have HY10 := Lib.hid hy10
            have HF10 := Lib.hid hf10
            rw [hlN] at HY10 HF10
            clear hy10 hf10
            simp only [RB.val, hlN]
            go_wp2_with fail
            refine bodyPost_ret (v := .tuple #[.agg #[.int .i64 N, .slice a10 ((N + 7) / 8) cap10], .int .i64 0]) (by simp [results, Try.results56, go_sem, *]) rfl ?_
            refine ⟨⟨N, a10, (N + 7) / 8, cap10, pack ((rdTo r (backK q) M).take N)⟩, by first | (rw [HRR.out]; done) | (rw [HRR.out]; rfl), by rw [HRR.out]; exact (HY10.out.put HF10.out hs9 _ _).put HF10.out hs9 _ _, HF10.out.mono (by omega), ?_⟩
            repeat (with_reducible refine Keeps.setCell ?_ (by first | (simp; done) | (simp; omega) | exact Nat.le_refl _) _)
            exact HK10.out
        · have dO : decide ((N : Int) < (P : Int)) = false := decide_eq_false (by omega)
          have HRR := Lib.hid (show decRes xs t q = ((rdTo r (backK q) M).take N, 0) by
            rw [HR.out]; unfold restRes; rw [hal2, hpl, hP, decide_eq_false hodd, Bool.false_and]; rfl)
          go_wp2_with fail
          have hlN : ((rdTo r (backK q) M).take N).length = N := by rw [List.length_take, hlr]; omega
          with_reducible refine (rof_any _ _ _ HT.out).mono ?_
          rw [show ofRes ((rdTo r (backK q) M).take N) = ((rdTo r (backK q) M).take N, 0) from if_pos (by rw [hlN]; omega)]
          rintro e w10 ⟨y10, rfl, hy10, hf10, hk10⟩
          have HK10 := Lib.hid (HK9.out.trans hk10)
          have HZ10 := Lib.hid (HZ9.out.keeps hk10)
          have z010 := HZ10.out.cell 0 _ rfl
          have z110 := HZ10.out.cell 1 _ rfl
          have zf10 := HZ10.out.frozen
          have hs9 := HZ9.out.lt
          clear hk10
          obtain ⟨a10, cap10, rfl⟩ := hy10.shape
          have HY10 := Lib.hid hy10
          have HF10 := Lib.hid hf10
          rw [hlN] at HY10 HF10
          clear hy10 hf10
          simp only [RB.val, hlN]
          go_wp2_with fail
          refine bodyPost_ret (v := .tuple #[.agg #[.int .i64 N, .slice a10 ((N + 7) / 8) cap10], .int .i64 0]) (by simp [results, Try.results56, go_sem, *]) rfl ?_
          refine ⟨⟨N, a10, (N + 7) / 8, cap10, pack ((rdTo r (backK q) M).take N)⟩, by first | (rw [HRR.out]; done) | (rw [HRR.out]; rfl), by rw [HRR.out]; exact (HY10.out.put HF10.out hs9 _ _).put HF10.out hs9 _ _, HF10.out.mono (by omega), ?_⟩
          repeat (with_reducible refine Keeps.setCell ?_ (by first | (simp; done) | (simp; omega) | exact Nat.le_refl _) _)
          exact HK10.out
end Go.Proofs.Ytdjbalaicfienaa
