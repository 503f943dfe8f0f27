/- The walks of the reference of layer 11: Whole, Make; bytes copied. -/
import Derived.Test.YtcophhdlcjemeaaT1
import Derived.Test.YtcophhdlcjemeaaM2
import Derived.Test.YtcophhdlcjemeaaM12
namespace Go.Proofs.Ytcophhdlcjemeaa
open Go.RowKit
set_option linter.unusedVariables false
set_option linter.unusedSimpArgs false
theorem rair_all (n : Int) (w : World) : Calls Try.prog 70 #[.int .i64 n] w fun e w' => e = .returned (.int .i64 (airI n)) ∧ Keeps w w' := by
  by_cases h : n ≤ 9223372036854775000
  · exact rair_any n w h
  have hd : decide (n < 0) = false := by simp; omega
  have hd2 : decide (4095 < n) = true := by simp; omega
  go_enter Try.func70, Try.ntmps70
  go_wp2_with fail
  go_ret
  exact ⟨ret_int (by unfold airI; rw [if_pos (by omega)]), Keeps.refl _⟩
def wholeOk (s : RSig) : Bool := sigOk s && (decide (1 ≤ s.b.n) && (decide (s.b.n ≤ 4095) && decide (s.t - s.f = airI s.b.n)))
theorem sigOk_span {s : RSig} (h : sigOk s = true) : 0 ≤ s.f ∧ s.f ≤ s.t ∧ s.t ≤ 1099511627776 := by
  unfold sigOk at h
  simp only [Bool.and_eq_true] at h
  exact (spanOk_iff _ _).1 h.2.1
set_option maxRecDepth 100000 in
set_option maxHeartbeats 1000000 in
theorem rwhole_any (s : RSig) (w : World) (hs : s.b.In w) : Calls Try.prog 71 #[s.val] w fun e w' => e = .returned (.bool (wholeOk s)) ∧ Keeps w w' := by
  have HI := Lib.hid hs
  clear hs
  have HC := Lib.hid (rsigcheck_any s)
  have HSP := Lib.hid (@sigOk_span s)
  have HR : Hid (wholeOk s = (sigOk s && (decide (1 ≤ s.b.n) && (decide (s.b.n ≤ 4095) && decide (s.t - s.f = airI s.b.n))))) := Lib.hid rfl
  obtain ⟨R, hR⟩ : ∃ R, R = wholeOk s := ⟨_, rfl⟩
  rw [← hR] at HR ⊢
  clear hR
  obtain ⟨O, hO⟩ : ∃ O, O = sigOk s := ⟨_, rfl⟩
  rw [← hO] at HR HC HSP
  clear hO
  obtain ⟨fr, f, t, lv, n, a, len, cap, l⟩ := s
  simp only at HI HR HSP
  have HK := Lib.hid ((Keeps.refl w).alloc (.cells #[.int .i64 fr, .int .i64 f, .int .i64 t, .int .i64 lv, .int .i64 n, .slice a len cap] 73))
  have HB := Lib.hid (Box.new w 73 #[.int .i64 fr, .int .i64 f, .int .i64 t, .int .i64 lv, .int .i64 n, .slice a len cap])
  show Calls Try.prog 71 #[.agg #[.int .i64 fr, .int .i64 f, .int .i64 t, .int .i64 lv, .int .i64 n, .slice a len cap]] w _
  have hAI := airI_le n
  obtain ⟨A, hA⟩ : ∃ A, A = airI n := ⟨_, rfl⟩
  have HCA : Hid (∀ w : World, Calls Try.prog 70 #[.int .i64 n] w fun e w' => e = .returned (.int .i64 A) ∧ Keeps w w') := Lib.hid (fun w => by rw [hA]; exact rair_all n w)
  rw [← hA] at HR hAI
  clear hA
  cases O
  · simp only [cond_false] at HC
    have HE : Hid (R = false) := Lib.hid (by rw [HR.out]; rfl)
    have c0 := HB.out.later 0 _ rfl
    have c1 := HB.out.later 1 _ rfl
    have c2 := HB.out.later 2 _ rfl
    have c3 := HB.out.later 3 _ rfl
    have c4 := HB.out.later 4 _ rfl
    have c5 := HB.out.later 5 _ rfl
    go_enter Try.func71, Try.ntmps71
    go_wp2_with fail
    refine wp_region_later (by kernel_rfl) (by kernel_rfl) ?_
    repeat (go_big_quiet_step (first
      | (go_at_call 79; with_reducible exact Later.calls _ (HC.out _ (HI.out.keeps (HK.out.trans (Later.keeps _)))))
      | (go_at_call 70; with_reducible exact Later.calls _ (HCA.out _))))
    refine wpQuiet_nil ?_
    rintro _ ⟨q, rfl⟩
    have HKK := Lib.hid (HK.out.trans q.keeps)
    clear c0 c1 c2 c3 c4 c5
    go_wp2_with fail
    go_ret
    exact ⟨ret_bool HE.out.symm, HKK.out⟩
  have hsp := HSP.out (by first | rfl | trivial)
  clear HSP
  simp only [cond_true] at HC
  by_cases t1 : 1 ≤ n
  case neg =>
    have d1 : decide (1 ≤ n) = false := by simpa using t1
    have HE : Hid (R = false) := Lib.hid (by rw [HR.out, d1]; rfl)
    have c0 := HB.out.later 0 _ rfl
    have c1 := HB.out.later 1 _ rfl
    have c2 := HB.out.later 2 _ rfl
    have c3 := HB.out.later 3 _ rfl
    have c4 := HB.out.later 4 _ rfl
    have c5 := HB.out.later 5 _ rfl
    go_enter Try.func71, Try.ntmps71
    go_wp2_with fail
    refine wp_region_later (by kernel_rfl) (by kernel_rfl) ?_
    repeat (go_big_quiet_step (first
      | (go_at_call 79; with_reducible exact Later.calls _ (HC.out _ (HI.out.keeps (HK.out.trans (Later.keeps _)))))
      | (go_at_call 70; with_reducible exact Later.calls _ (HCA.out _))))
    refine wpQuiet_nil ?_
    rintro _ ⟨q, rfl⟩
    have HKK := Lib.hid (HK.out.trans q.keeps)
    clear c0 c1 c2 c3 c4 c5
    go_wp2_with fail
    go_ret
    exact ⟨ret_bool HE.out.symm, HKK.out⟩
  have d1 : decide (1 ≤ n) = true := by simpa using t1
  by_cases t2 : n ≤ 4095
  case neg =>
    have d2 : decide (n ≤ 4095) = false := by simpa using t2
    have HE : Hid (R = false) := Lib.hid (by rw [HR.out, d2]; simp)
    have c0 := HB.out.later 0 _ rfl
    have c1 := HB.out.later 1 _ rfl
    have c2 := HB.out.later 2 _ rfl
    have c3 := HB.out.later 3 _ rfl
    have c4 := HB.out.later 4 _ rfl
    have c5 := HB.out.later 5 _ rfl
    go_enter Try.func71, Try.ntmps71
    go_wp2_with fail
    refine wp_region_later (by kernel_rfl) (by kernel_rfl) ?_
    repeat (go_big_quiet_step (first
      | (go_at_call 79; with_reducible exact Later.calls _ (HC.out _ (HI.out.keeps (HK.out.trans (Later.keeps _)))))
      | (go_at_call 70; with_reducible exact Later.calls _ (HCA.out _))))
    refine wpQuiet_nil ?_
    rintro _ ⟨q, rfl⟩
    have HKK := Lib.hid (HK.out.trans q.keeps)
    clear c0 c1 c2 c3 c4 c5
    go_wp2_with fail
    go_ret
    exact ⟨ret_bool HE.out.symm, HKK.out⟩
  have d2 : decide (n ≤ 4095) = true := by simpa using t2
  have hw : IntKind.i64.wrap (t - f) = t - f := by simp [IntKind.wrap, IntKind.bits, IntKind.signed]; omega
  replace HR : Hid (R = decide (t - f = A)) := Lib.hid (by rw [HR.out, d1, d2]; rfl)
  by_cases t3 : t - f = A
  · have d3 : (t - f == A) = true := by simpa using t3
    have HE : Hid (R = true) := Lib.hid (by rw [HR.out, decide_eq_true t3])
    clear t3 HR
    have c0 := HB.out.later 0 _ rfl
    have c1 := HB.out.later 1 _ rfl
    have c2 := HB.out.later 2 _ rfl
    have c3 := HB.out.later 3 _ rfl
    have c4 := HB.out.later 4 _ rfl
    have c5 := HB.out.later 5 _ rfl
    go_enter Try.func71, Try.ntmps71
    go_wp2_with fail
    refine wp_region_later (by kernel_rfl) (by kernel_rfl) ?_
    repeat (go_big_quiet_step (first
      | (go_at_call 79; with_reducible exact Later.calls _ (HC.out _ (HI.out.keeps (HK.out.trans (Later.keeps _)))))
      | (go_at_call 70; with_reducible exact Later.calls _ (HCA.out _))))
    refine wpQuiet_nil ?_
    rintro _ ⟨q, rfl⟩
    have HKK := Lib.hid (HK.out.trans q.keeps)
    clear c0 c1 c2 c3 c4 c5
    go_wp2_with fail
    go_ret
    exact ⟨ret_bool HE.out.symm, HKK.out⟩
  · have d3 : (t - f == A) = false := by simpa using t3
    have HE : Hid (R = false) := Lib.hid (by rw [HR.out, decide_eq_false t3])
    clear t3 HR
    have c0 := HB.out.later 0 _ rfl
    have c1 := HB.out.later 1 _ rfl
    have c2 := HB.out.later 2 _ rfl
    have c3 := HB.out.later 3 _ rfl
    have c4 := HB.out.later 4 _ rfl
    have c5 := HB.out.later 5 _ rfl
    go_enter Try.func71, Try.ntmps71
    go_wp2_with fail
    refine wp_region_later (by kernel_rfl) (by kernel_rfl) ?_
    repeat (go_big_quiet_step (first
      | (go_at_call 79; with_reducible exact Later.calls _ (HC.out _ (HI.out.keeps (HK.out.trans (Later.keeps _)))))
      | (go_at_call 70; with_reducible exact Later.calls _ (HCA.out _))))
    refine wpQuiet_nil ?_
    rintro _ ⟨q, rfl⟩
    have HKK := Lib.hid (HK.out.trans q.keeps)
    clear c0 c1 c2 c3 c4 c5
    go_wp2_with fail
    go_ret
    exact ⟨ret_bool HE.out.symm, HKK.out⟩
end Go.Proofs.Ytcophhdlcjemeaa
