/- The walk of layer 11: SameSignal. -/
import Derived.Test.YtcophhdlcjemeaaT1
import Derived.Test.YtcophhdlcjemeaaT5a
import Derived.Test.YtcophhdlcjemeaaM15
namespace Go.Proofs.Ytcophhdlcjemeaa
open Go.RowKit
set_option linter.unusedVariables false
set_option linter.unusedSimpArgs false
def sigSame (x y : RSig) : Bool := decide (x.fr = y.fr) && (spanSame x.f x.t y.f y.t && (decide (x.lv = y.lv) && sameRes x.b y.b))
attribute [local go_sem ↓ high] eqSpan
set_option maxRecDepth 100000 in
set_option maxHeartbeats 1000000 in
theorem rsigsame_any (x y : RSig) (w : World) (hx : x.b.In w) (hy : y.b.In w) :
    Calls Try.prog 48 #[x.val, y.val] w fun e w' => e = .returned (.bool (sigSame x y)) ∧ Keeps w w' := by
  have HI := Lib.hid hx
  have HJ := Lib.hid hy
  clear hx hy
  obtain ⟨fr, f, t, lv, n, a, len, cap, l⟩ := x
  obtain ⟨fr2, f2, t2, lv2, n2, a2, len2, cap2, l2⟩ := y
  simp only at HI HJ
  have HR : Hid (sigSame ⟨fr, f, t, lv, n, a, len, cap, l⟩ ⟨fr2, f2, t2, lv2, n2, a2, len2, cap2, l2⟩ = (decide (fr = fr2) && (spanSame f t f2 t2 && (decide (lv = lv2) && sameRes ⟨n, a, len, cap, l⟩ ⟨n2, a2, len2, cap2, l2⟩)))) := Lib.hid rfl
  obtain ⟨R, hR⟩ : ∃ R, R = sigSame ⟨fr, f, t, lv, n, a, len, cap, l⟩ ⟨fr2, f2, t2, lv2, n2, a2, len2, cap2, l2⟩ := ⟨_, rfl⟩
  rw [← hR] at HR ⊢
  clear hR
  obtain ⟨P, hP⟩ : ∃ P, P = spanSame f t f2 t2 := ⟨_, rfl⟩
  rw [← hP] at HR
  have HK := Lib.hid (((Keeps.refl w).alloc (.cells #[.int .i64 fr, .int .i64 f, .int .i64 t, .int .i64 lv, .int .i64 n, .slice a len cap] 73)).alloc (.cells #[.int .i64 fr2, .int .i64 f2, .int .i64 t2, .int .i64 lv2, .int .i64 n2, .slice a2 len2 cap2] 73))
  have HA := Lib.hid ((Box.new w 73 #[.int .i64 fr, .int .i64 f, .int .i64 t, .int .i64 lv, .int .i64 n, .slice a len cap]).next (.cells #[.int .i64 fr2, .int .i64 f2, .int .i64 t2, .int .i64 lv2, .int .i64 n2, .slice a2 len2 cap2] 73))
  have hb := Box.new (w.alloc (.cells #[.int .i64 fr, .int .i64 f, .int .i64 t, .int .i64 lv, .int .i64 n, .slice a len cap] 73)) 73 #[.int .i64 fr2, .int .i64 f2, .int .i64 t2, .int .i64 lv2, .int .i64 n2, .slice a2 len2 cap2]
  rw [World.size_alloc] at hb
  have HB := Lib.hid hb
  clear hb
  show Calls Try.prog 48 #[.agg #[.int .i64 fr, .int .i64 f, .int .i64 t, .int .i64 lv, .int .i64 n, .slice a len cap], .agg #[.int .i64 fr2, .int .i64 f2, .int .i64 t2, .int .i64 lv2, .int .i64 n2, .slice a2 len2 cap2]] w _
  by_cases t1 : ¬ fr = fr2
  · have HE : Hid (R = false) := Lib.hid (by rw [HR.out, decide_eq_false t1]; rfl)
    have d1 : (fr == fr2) = false := by rw [beq_eq_false_iff_ne]; exact t1
    have d2 : decide (fr = fr2) = false := decide_eq_false t1
    clear hP
    go_enter Try.func48, Try.ntmps48
    go_wp2_with fail
    go_ret
    exact ⟨by rw [HE.out]; rfl, HK.out⟩
  replace t1 := Decidable.of_not_not t1
  have et1 : (fr == fr2) = true := by rw [t1]; exact beq_self_eq_true _
  have ft1 : decide (fr = fr2) = true := decide_eq_true t1
  replace t1 := Lib.hid t1
  replace hP := hP.symm
  cases P
  · have HE : Hid (R = false) := Lib.hid (by rw [HR.out]; simp [t1.out])
    go_enter Try.func48, Try.ntmps48
    go_wp2_with fail
    go_ret
    exact ⟨by rw [HE.out]; rfl, HK.out⟩
  by_cases t2 : ¬ lv = lv2
  · have HE : Hid (R = false) := Lib.hid (by rw [HR.out, decide_eq_false t2]; simp [t1.out])
    have d1 : (lv == lv2) = false := by rw [beq_eq_false_iff_ne]; exact t2
    have d2 : decide (lv = lv2) = false := decide_eq_false t2
    go_enter Try.func48, Try.ntmps48
    go_wp2_with fail
    go_ret
    exact ⟨by rw [HE.out]; rfl, HK.out⟩
  replace t2 := Decidable.of_not_not t2
  have et2 : (lv == lv2) = true := by rw [t2]; exact beq_self_eq_true _
  have ft2 : decide (lv = lv2) = true := decide_eq_true t2
  replace t2 := Lib.hid t2
  have HE : Hid (R = sameRes ⟨n, a, len, cap, l⟩ ⟨n2, a2, len2, cap2, l2⟩) := Lib.hid (by rw [HR.out]; simp [t1.out, t2.out])
  go_enter Try.func48, Try.ntmps48
  go_wp2_with fail
  with_reducible refine (rsame_any ⟨n, a, len, cap, l⟩ ⟨n2, a2, len2, cap2, l2⟩ _ (by exact HI.out.keeps HK.out) (by exact HJ.out.keeps HK.out)).mono ?_
  rintro e w1 ⟨rfl, hk1⟩
  replace HK := Lib.hid (HK.out.trans hk1)
  clear hk1
  go_wp2_with fail
  go_ret
  exact ⟨by rw [HE.out]; rfl, HK.out⟩
end Go.Proofs.Ytcophhdlcjemeaa
