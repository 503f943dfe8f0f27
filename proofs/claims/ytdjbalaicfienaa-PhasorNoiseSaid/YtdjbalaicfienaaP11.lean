/- Samples: parts of a row; held against the preamble. Match. -/
import Derived.Test.YtdjbalaicfienaaP5
namespace Go.Proofs.Ytdjbalaicfienaa
open Go.RowKit
set_option linter.unusedVariables false
set_option linter.unusedSimpArgs false
def partS (xs : List Smp) (f t : Nat) : List Smp := (xs.drop f).take (t - f)
theorem partS_len (xs : List Smp) (f t : Nat) (h : t ≤ xs.length) : (partS xs f t).length = t - f := by simp [partS]; omega
theorem partS_get (xs : List Smp) (f t k : Nat) (h : k < (partS xs f t).length) (h2 : f + k < xs.length) : (partS xs f t)[k] = xs[f + k] := by simp [partS]
theorem SRow.cut {w : World} {a : Option Addr} {n cap : Nat} {xs : List Smp} (h : SRow w a n cap xs) (f t : Nat) (h1 : f ≤ t) (h2 : t ≤ n) :
    SRow w (if cap = f then a else a.map (·.add (f * 2))) (t - f) (cap - f) (partS xs f t) := by
  have hl := h.len
  have hc := h.hcap
  have hm := h.hmax
  have hpl := partS_len xs f t (by omega)
  refine ⟨hpl, by omega, by omega, fun i hi => ?_⟩
  rw [hpl] at hi
  obtain ⟨b, off, hab, hv1, hv2⟩ := h.cell (f + i) (by omega)
  subst hab
  rw [partS_get xs f t i (by omega) (by omega), if_neg (by omega)]
  by_cases h0 : f = 0
  · subst h0
    exact ⟨b, off, rfl, by simpa using hv1, by simpa using hv2⟩
  · have h0' : ¬ f * 2 = 0 := by omega
    refine ⟨b, off + f * 2, by simp [Addr.add, h0'], ?_, ?_⟩
    · rw [← hv1]; congr 2; omega
    · rw [← hv2]; congr 2; omega
theorem elemSmp : Try.prog.underlying 52 = some (.slice (Try.prog.elem 52)) := by kernel_rfl
/-- 's[f:t]' -/
theorem sub_lh (a : Option Addr) (n cap f t : Nat) (v u : Int) (hv : v = f) (hu : u = t) (h1 : f ≤ t) (h2 : t ≤ n) (hc : n ≤ cap) : ∃ a' cap', (∀ w : World, (Instr.slice 52 (.slice a n cap) (some (.int .i64 v)) (some (.int .i64 u)) none).run Try.prog w = .ok (.slice a' (t - f) cap') w) ∧ ∀ (w : World) (xs : List Smp), SRow w a n cap xs → SRow w a' (t - f) cap' (partS xs f t) := by
  subst hv hu
  refine ⟨_, _, fun w => ?_, fun w xs h => h.cut f t h1 h2⟩
  rw [run_slice_lh w 52 a n cap elemSmp .i64 .i64 f t (by omega) (by omega) (by omega)]
  simp [go_sem, sliced]
/-- 's[:t]' -/
theorem sub_h (a : Option Addr) (n cap t : Nat) (u : Int) (hu : u = t) (h2 : t ≤ n) (hc : n ≤ cap) : ∃ a' cap', (∀ w : World, (Instr.slice 52 (.slice a n cap) none (some (.int .i64 u)) none).run Try.prog w = .ok (.slice a' t cap') w) ∧ ∀ (w : World) (xs : List Smp), SRow w a n cap xs → SRow w a' t cap' (partS xs 0 t) := by
  subst hu
  refine ⟨_, _, fun w => ?_, fun w xs h => h.cut 0 t (Nat.zero_le _) h2⟩
  rw [run_slice_h w 52 a n cap elemSmp .i64 t (by omega) (by omega)]
  simp [go_sem, sliced]
/-- 's[f:]' -/
theorem sub_l (a : Option Addr) (n cap f : Nat) (v : Int) (hv : v = f) (h2 : f ≤ n) (hc : n ≤ cap) : ∃ a' cap', (∀ w : World, (Instr.slice 52 (.slice a n cap) (some (.int .i64 v)) none none).run Try.prog w = .ok (.slice a' (n - f) cap') w) ∧ ∀ (w : World) (xs : List Smp), SRow w a n cap xs → SRow w a' (n - f) cap' (partS xs f n) := by
  subst hv
  refine ⟨_, _, fun w => ?_, fun w xs h => h.cut f n h2 (Nat.le_refl _)⟩
  rw [run_slice_l w 52 a n cap elemSmp .i64 f (by omega) (by omega)]
  simp [go_sem, sliced]
/-- a sample held against one of the preamble's -/
def mprod (x p : Smp) : Smp := ⟨x.i * p.i + x.q * p.q, x.q * p.i - x.i * p.q⟩
def corrTo (ys : List Smp) : Nat → Smp
  | 0 => ⟨0, 0⟩
  | k + 1 => ⟨(corrTo ys k).i + (mprod (ys.getD k ⟨0, 0⟩) (preS.getD k ⟨0, 0⟩)).i, (corrTo ys k).q + (mprod (ys.getD k ⟨0, 0⟩) (preS.getD k ⟨0, 0⟩)).q⟩
def pw (x : Smp) : Int := x.i * x.i + x.q * x.q
def powTo (ys : List Smp) : Nat → Int
  | 0 => 0
  | k + 1 => powTo ys k + pw (ys.getD k ⟨0, 0⟩)
theorem preD_abs (k : Nat) : (preS.getD k ⟨0, 0⟩).i.natAbs ≤ 1 ∧ (preS.getD k ⟨0, 0⟩).q.natAbs ≤ 1 := by
  by_cases hk : k < 8
  · match k, hk with
    | 0, _ => exact ⟨Nat.le_refl 1, Nat.le_refl 1⟩
    | 1, _ => exact ⟨Nat.le_refl 1, Nat.le_refl 1⟩
    | 2, _ => exact ⟨Nat.le_refl 1, Nat.le_refl 1⟩
    | 3, _ => exact ⟨Nat.le_refl 1, Nat.le_refl 1⟩
    | 4, _ => exact ⟨Nat.le_refl 1, Nat.le_refl 1⟩
    | 5, _ => exact ⟨Nat.le_refl 1, Nat.le_refl 1⟩
    | 6, _ => exact ⟨Nat.le_refl 1, Nat.le_refl 1⟩
    | 7, _ => exact ⟨Nat.le_refl 1, Nat.le_refl 1⟩
  · have hl : preS.length = 8 := rfl
    rw [List.getD_eq_getElem?_getD, List.getElem?_eq_none (by omega)]
    exact ⟨Nat.zero_le _, Nat.zero_le _⟩
theorem mprod_abs (x p : Smp) (hx : x.i.natAbs ≤ 262144 ∧ x.q.natAbs ≤ 262144) (hp : p.i.natAbs ≤ 1 ∧ p.q.natAbs ≤ 1) : (mprod x p).i.natAbs ≤ 524288 ∧ (mprod x p).q.natAbs ≤ 524288 := by
  have a1 := natAbs_mul_le hx.1 hp.1
  have a2 := natAbs_mul_le hx.2 hp.2
  have a3 := natAbs_mul_le hx.2 hp.1
  have a4 := natAbs_mul_le hx.1 hp.2
  simp only [mprod]
  omega
theorem pw_abs (x : Smp) (hx : x.i.natAbs ≤ 262144 ∧ x.q.natAbs ≤ 262144) : 0 ≤ pw x ∧ pw x ≤ 137438953472 := by
  have a1 := natAbs_mul_le hx.1 hx.1
  have a2 := natAbs_mul_le hx.2 hx.2
  have b1 : 0 ≤ x.i * x.i := by rw [← Int.natAbs_mul_self]; omega
  have b2 : 0 ≤ x.q * x.q := by rw [← Int.natAbs_mul_self]; omega
  simp only [pw]
  omega
theorem getD_abs {ys : List Smp} (h : allB ys = true) (k : Nat) : (ys.getD k ⟨0, 0⟩).i.natAbs ≤ 262144 ∧ (ys.getD k ⟨0, 0⟩).q.natAbs ≤ 262144 := by
  by_cases hk : k < ys.length
  · rw [List.getD_eq_getElem?_getD, List.getElem?_eq_getElem hk]
    exact mayB_abs (allB_get h k hk)
  · rw [List.getD_eq_getElem?_getD, List.getElem?_eq_none (by omega)]
    exact ⟨Nat.zero_le _, Nat.zero_le _⟩
theorem corr_abs {ys : List Smp} (h : allB ys = true) : ∀ k : Nat, (corrTo ys k).i.natAbs ≤ 524288 * k ∧ (corrTo ys k).q.natAbs ≤ 524288 * k
  | 0 => ⟨Nat.le_refl _, Nat.le_refl _⟩
  | k + 1 => by
    have h1 := corr_abs h k
    have h2 := mprod_abs _ _ (getD_abs h k) (preD_abs k)
    simp only [corrTo]
    omega
theorem pow_abs {ys : List Smp} (h : allB ys = true) : ∀ k : Nat, 0 ≤ powTo ys k ∧ powTo ys k ≤ 137438953472 * k
  | 0 => ⟨Int.le_refl _, by simp [powTo]⟩
  | k + 1 => by
    have h1 := pow_abs h k
    have h2 := pw_abs _ (getD_abs h k)
    simp only [powTo]
    omega
/-- the answer of Match -/
def matchOk (n at_ : Int) : Bool := decide (0 ≤ at_) && decide (at_ ≤ n - 8)
def isB (c : Smp) (n : Int) : Bool := decide (0 < n) && decide (16 * n ≤ 2 * pw c)
def matchRes (xs : List Smp) (at_ : Int) : Smp × Int × Bool :=
  cond (matchOk xs.length at_ && allB (partS xs at_.toNat (at_.toNat + 8))) (corrTo (partS xs at_.toNat (at_.toNat + 8)) 8, powTo (partS xs at_.toNat (at_.toNat + 8)) 8, isB (corrTo (partS xs at_.toNat (at_.toNat + 8)) 8) (powTo (partS xs at_.toNat (at_.toNat + 8)) 8)) (⟨0, 0⟩, 0, false)
theorem pre_index (k : Nat) (hk : k < 8) : ∃ A B, FInt A (preS.getD k ⟨0, 0⟩).i ∧ FInt B (preS.getD k ⟨0, 0⟩).q ∧ ∀ w : World, (Instr.index 97 (.agg #[.complex .f64 4607182418800017408 4607182418800017408, .complex .f64 4607182418800017408 4607182418800017408, .complex .f64 13830554455654793216 13830554455654793216, .complex .f64 4607182418800017408 13830554455654793216, .complex .f64 13830554455654793216 4607182418800017408, .complex .f64 4607182418800017408 4607182418800017408, .complex .f64 13830554455654793216 4607182418800017408, .complex .f64 4607182418800017408 13830554455654793216]) (.int .i64 k)).run Try.prog w = .ok (.complex .f64 A B) w := by
  match k, hk with
  | 0, _ => exact ⟨_, _, FInt.one, FInt.one, fun w => by kernel_rfl⟩
  | 1, _ => exact ⟨_, _, FInt.one, FInt.one, fun w => by kernel_rfl⟩
  | 2, _ => exact ⟨_, _, FInt.mone, FInt.mone, fun w => by kernel_rfl⟩
  | 3, _ => exact ⟨_, _, FInt.one, FInt.mone, fun w => by kernel_rfl⟩
  | 4, _ => exact ⟨_, _, FInt.mone, FInt.one, fun w => by kernel_rfl⟩
  | 5, _ => exact ⟨_, _, FInt.one, FInt.one, fun w => by kernel_rfl⟩
  | 6, _ => exact ⟨_, _, FInt.mone, FInt.one, fun w => by kernel_rfl⟩
  | 7, _ => exact ⟨_, _, FInt.one, FInt.mone, fun w => by kernel_rfl⟩
theorem FInt.two : FInt 4611686018427387904 2 := ⟨false, 4503599627370496, -51, by decide +kernel, by decide +kernel⟩
theorem FInt.sixteen : FInt 4625196817309499392 16 := ⟨false, 4503599627370496, -48, by decide +kernel, by decide +kernel⟩
theorem FInt.gt {a b : Nat} {x y : Int} (ha : FInt a x) (hb : FInt b y) : (FloatKind.f64.format.order a b == some .gt) = decide (y < x) := by
  rw [FInt.order ha hb]
  rcases Int.lt_trichotomy x y with h | h | h
  · rw [Int.compare_eq_lt.2 h, decide_eq_false (by omega)]; rfl
  · subst h; rw [Int.compare_eq_eq.2 rfl, decide_eq_false (by omega)]; rfl
  · rw [Int.compare_eq_gt.2 h, decide_eq_true h]; rfl
theorem FInt.lt {a b : Nat} {x y : Int} (ha : FInt a x) (hb : FInt b y) : (FloatKind.f64.format.order a b == some .lt) = decide (x < y) := by
  rw [FInt.order ha hb]
  rcases Int.lt_trichotomy x y with h | h | h
  · rw [Int.compare_eq_lt.2 h, decide_eq_true h]; rfl
  · subst h; rw [Int.compare_eq_eq.2 rfl, decide_eq_false (by omega)]; rfl
  · rw [Int.compare_eq_gt.2 h, decide_eq_false (by omega)]; rfl
theorem FInt.ge {a b : Nat} {x y : Int} (ha : FInt a x) (hb : FInt b y) : (FloatKind.f64.format.order a b == some .gt || FloatKind.f64.format.order a b == some .eq) = decide (y ≤ x) := by
  rw [FInt.order ha hb]
  rcases Int.lt_trichotomy x y with h | h | h
  · rw [Int.compare_eq_lt.2 h, decide_eq_false (by omega)]; rfl
  · subst h; rw [Int.compare_eq_eq.2 rfl, decide_eq_true (by omega)]; rfl
  · rw [Int.compare_eq_gt.2 h, decide_eq_true (by omega)]; rfl
set_option maxRecDepth 100000 in
set_option maxHeartbeats 1000000 in
theorem power_any (a b : Nat) (x : Smp) (A : Nat) (w : World) (ha : FInt a x.i) (hb : FInt b x.q) (h1 : x.i.natAbs ≤ A) (h2 : x.q.natAbs ≤ A) (h : 2 * (A * A) < 2 ^ 53) :
    Calls Try.prog 81 #[.complex .f64 a b] w fun e w' => ∃ p, e = .returned (.float .f64 p) ∧ FInt p (pw x) ∧ w' = w := by
  have HA := Lib.hid ha
  have HB := Lib.hid hb
  go_enter Try.func81, Try.ntmps81
  go_wp2_with fail
  with_reducible refine (conj_any a b x.i x.q _ HA.out HB.out).mono ?_
  rintro e w1 ⟨c, d, rfl, hc, hd, rfl⟩
  obtain ⟨re, im, k1, k2, e1⟩ := cmul_int HA.out HB.out hc hd A A h1 h2 h1 (by omega) h
  have e2 := e1 Try.prog 95
  have K1 : Hid (FInt re (pw x)) := Lib.hid (by
    have e : pw x = x.i * x.i - x.q * -x.q := by simp [pw, Int.mul_neg]
    rw [e]; exact k1)
  clear k1 k2 e1 hc hd h h1 h2 ha hb
  go_wp2_with fail
  go_ret
  exact ⟨_, rfl, K1.out, rfl⟩
/-- what Match answers -/
def MRes (w w' : World) (e : Ending) (r : Smp × Int × Bool) : Prop := e = .returned (.tuple #[r.1.val, .int .i64 r.2.1, .bool r.2.2]) ∧ Keeps w w'
theorem matchRes_no (xs : List Smp) (at_ : Int) (h : (matchOk xs.length at_ && allB (partS xs at_.toNat (at_.toNat + 8))) = false) : matchRes xs at_ = (⟨0, 0⟩, 0, false) := by unfold matchRes; rw [h]; rfl
theorem matchRes_yes (xs : List Smp) (t : Nat) (ys : List Smp) (hy : ys = partS xs t (t + 8)) (h1 : t + 8 ≤ xs.length) (h : allB ys = true) : matchRes xs t = (corrTo ys 8, powTo ys 8, isB (corrTo ys 8) (powTo ys 8)) := by
  subst hy
  unfold matchRes
  rw [Int.toNat_natCast, h, show matchOk xs.length t = true by simp only [matchOk, Bool.and_eq_true, decide_eq_true_eq]; omega]
  rfl
set_option maxRecDepth 100000 in
set_option maxHeartbeats 2000000 in
theorem match_out (a : Option Addr) (n cap : Nat) (xs : List Smp) (at_ : Int) (w : World) (hx : SRow w a n cap xs) (h : matchOk n at_ = false) (hb : -9223372036854775808 ≤ at_) (hn : n ≤ 100000) :
    Calls Try.prog 47 #[.slice a n cap, .int .i64 at_] w fun e w' => MRes w w' e (matchRes xs at_) := by
  have HR := Lib.hid (matchRes_no xs at_ (by rw [hx.len, h]; rfl))
  simp only [matchOk, Bool.and_eq_false_iff, decide_eq_false_iff_not] at h
  have hd : decide (at_ < 0) = true ∨ (decide (at_ < 0) = false ∧ decide ((n : Int) - 8 < at_) = true) := by
    by_cases h0 : at_ < 0
    · left; simpa using h0
    · right; exact ⟨by simpa using h0, by simp; omega⟩
  clear h hx
  rcases hd with d1 | ⟨d1, d2⟩
  all_goals
    go_enter Try.func47, Try.ntmps47
    go_wp2_with fail
    refine bodyPost_ret (v := .tuple #[.agg #[.int .i64 0, .int .i64 0], .int .i64 0, .bool false]) (by simp [results, Try.results47, go_sem, *]) rfl ⟨by rw [HR.out], ?_⟩
    repeat (with_reducible refine Keeps.setCell ?_ (by first | (simp; done) | (simp; omega) | exact Nat.le_refl _) _)
    exact (Keeps.refl w).alloc _
set_option maxRecDepth 100000 in
set_option maxHeartbeats 2000000 in
theorem match_bad (a : Option Addr) (n cap : Nat) (xs : List Smp) (t : Nat) (w : World) (hx : SRow w a n cap xs) (h1 : t + 8 ≤ n) (h : allB (partS xs t (t + 8)) = false) (hn : n ≤ 100000) :
    Calls Try.prog 47 #[.slice a n cap, .int .i64 t] w fun e w' => MRes w w' e (matchRes xs t) := by
  have HR := Lib.hid (matchRes_no xs t (by rw [Int.toNat_natCast, h, Bool.and_false]))
  obtain ⟨a', cap', e1, hsub⟩ := sub_lh a n cap t (t + 8) (t : Int) ((t : Int) + 8) rfl (by omega) (by omega) h1 hx.hcap
  have HS := Lib.hid (hsub _ _ (hx.keeps ((Keeps.refl w).alloc (.cells #[.int .i64 0, .int .i64 0] 63))))
  have e2 : t + 8 - t = 8 := by omega
  rw [e2] at HS
  rw [e2] at e1
  have d1 : decide ((t : Int) < 0) = false := decide_eq_false (by omega)
  have d2 : decide ((n : Int) - 8 < t) = false := by simp; omega
  have H := Lib.hid h
  clear h hx hsub e2
  go_enter Try.func47, Try.ntmps47
  go_wp2_with fail
  with_reducible refine (all_samples a' 8 cap' _ _ (by exact HS.out)).mono ?_
  rw [H.out]
  rintro e w1 ⟨rfl, hk1⟩
  have hb := (Box.new w 63 #[.int .i64 0, .int .i64 0]).keeps hk1
  have z0 := hb.cell 0 _ rfl
  have z1 := hb.cell 1 _ rfl
  have zf := hb.frozen
  have zl := hb.lt
  go_wp2_with fail
  refine bodyPost_ret (v := .tuple #[.agg #[.int .i64 0, .int .i64 0], .int .i64 0, .bool false]) (by simp [results, Try.results47, go_sem, *]) rfl ⟨by rw [HR.out], ?_⟩
  repeat (with_reducible refine Keeps.setCell ?_ (by first | (simp; done) | (simp; omega) | exact Nat.le_refl _) _)
  exact hk1.unbox
set_option maxRecDepth 100000 in
set_option maxHeartbeats 4000000 in
theorem match_ok (a : Option Addr) (n cap : Nat) (xs : List Smp) (t : Nat) (w : World) (hx : SRow w a n cap xs) (h1 : t + 8 ≤ n) (h : allB (partS xs t (t + 8)) = true) (hn : n ≤ 100000) :
    Calls Try.prog 47 #[.slice a n cap, .int .i64 t] w fun e w' => MRes w w' e (matchRes xs t) := by
  have hxl := hx.len
  have hcap := hx.hcap
  have hmax := hx.hmax
  have HX := Lib.hid hx
  obtain ⟨ys, hy⟩ : ∃ ys, ys = partS xs t (t + 8) := ⟨_, rfl⟩
  have HR := Lib.hid (matchRes_yes xs t ys hy (by omega) (by rw [hy]; exact h))
  have HYG : Hid (∀ k (hk : k < 8), ys.getD k ⟨0, 0⟩ = xs[t + k]'(by omega)) := Lib.hid (fun k hk => by
    have hpl := partS_len xs t (t + 8) (by omega)
    rw [hy, List.getD_eq_getElem?_getD, List.getElem?_eq_getElem (by omega)]
    exact partS_get xs t (t + 8) k _ (by omega))
  obtain ⟨a', cap', e1, hsub⟩ := sub_lh a n cap t (t + 8) (t : Int) ((t : Int) + 8) rfl (by omega) (by omega) h1 hx.hcap
  have HS := Lib.hid (hsub _ _ (hx.keeps ((Keeps.refl w).alloc (.cells #[.int .i64 0, .int .i64 0] 63))))
  have e2 : t + 8 - t = 8 := by omega
  rw [e2] at HS
  rw [e2] at e1
  rw [← hy] at HS h
  have HAB := Lib.hid (getD_abs h)
  have HCA := Lib.hid (corr_abs h)
  have HPA := Lib.hid (pow_abs h)
  obtain ⟨R, hR⟩ : ∃ R, R = matchRes xs t := ⟨_, rfl⟩
  rw [← hR] at HR ⊢
  have d1 : decide ((t : Int) < 0) = false := decide_eq_false (by omega)
  have d2 : decide ((n : Int) - 8 < t) = false := by simp; omega
  have H := Lib.hid h
  clear h hx hsub e2 hR hy
  go_enter Try.func47, Try.ntmps47
  go_wp2_with fail
  with_reducible refine (all_samples a' 8 cap' _ _ (by exact HS.out)).mono ?_
  rw [H.out]
  rintro e w1 ⟨rfl, hk1⟩
  have HZ := Lib.hid ((Box.new w 63 #[.int .i64 0, .int .i64 0]).keeps hk1)
  have HK := Lib.hid hk1.unbox
  clear hk1 e1 HS
  go_wp2_with fail
  with_reducible refine (preamble_any _).mono ?_
  rintro e w2 ⟨rfl, hk2⟩
  replace HZ := Lib.hid (HZ.out.keeps hk2)
  replace HK := Lib.hid (HK.out.trans hk2)
  clear hk2 d1 d2
  go_wp2_with fail
  go_loopw [7, 8, 32] (fun cv sv i wr => ∃ (k ca cb st : Nat), k ≤ 8 ∧ i = .int .i64 k ∧ cv = .complex .f64 ca cb ∧ sv = .float .f64 st ∧ Hid (FInt ca (corrTo ys k).i) ∧ Hid (FInt cb (corrTo ys k).q) ∧ Hid (FInt st (powTo ys k)) ∧ Hid (Box wr w.heap.size 63 #[.int .i64 0, .int .i64 0]) ∧ Hid (Keeps w wr)) (fun _ _ i _ => 8 - (intOf i).toNat)
  case atStart => exact ⟨0, 0, 0, 0, by omega, rfl, rfl, rfl, FInt.zero, FInt.zero, FInt.zero, HZ, HK⟩
  case round =>
    clear HZ HK
    obtain ⟨k, ca, cb, st, hk, rfl, rfl, rfl, HCA1, HCB1, HST, HZ, HK⟩ := hrel
    by_cases hlt : k < 8
    · obtain ⟨b, off, rfl, hbl, hcell⟩ := HX.out.addr (by omega)
      obtain ⟨hc0, hc1⟩ := hcell (t + k) (by omega)
      replace hc0 := HK.out.later hc0
      replace hc1 := HK.out.later hc1
      have hyg := HYG.out k hlt
      have hma := HAB.out k
      have hpa := preD_abs k
      have hc9 := HCA.out k
      have hp9 := HPA.out k
      have hc10 := HCA.out (k + 1)
      have hp10 := HPA.out (k + 1)
      have HS1 := Lib.hid (show corrTo ys (k + 1) = ⟨(corrTo ys k).i + (mprod (ys.getD k ⟨0, 0⟩) (preS.getD k ⟨0, 0⟩)).i, (corrTo ys k).q + (mprod (ys.getD k ⟨0, 0⟩) (preS.getD k ⟨0, 0⟩)).q⟩ from rfl)
      have HS2 := Lib.hid (show powTo ys (k + 1) = powTo ys k + pw (ys.getD k ⟨0, 0⟩) from rfl)
      obtain ⟨A, B, hA, hB, hix⟩ := pre_index k hlt
      rw [← hyg] at hc0 hc1
      obtain ⟨p, hp⟩ : ∃ p, p = preS.getD k ⟨0, 0⟩ := ⟨_, rfl⟩
      rw [← hp] at hpa HS1 hA hB
      obtain ⟨x, hx⟩ : ∃ x, x = ys.getD k ⟨0, 0⟩ := ⟨_, rfl⟩
      rw [← hx] at hc0 hc1 hma HS1 HS2
      rw [HS1.out] at hc10
      rw [HS2.out] at hp10
      have HA := Lib.hid hA
      have HB := Lib.hid hB
      clear hcell hyg hp hx hA hB
      obtain ⟨C, hC⟩ : ∃ C, C = corrTo ys k := ⟨_, rfl⟩
      rw [← hC] at HCA1 HCB1 HS1 hc9 hc10
      obtain ⟨S, hS⟩ : ∃ S, S = powTo ys k := ⟨_, rfl⟩
      rw [← hS] at HST HS2 hp9 hp10
      clear hC hS
      have hw9 : IntKind.i64.wrap ((t : Int) + (k : Int)) = ((t + k : Nat) : Int) := by rw [wrap_small (by omega)]; omega
      obtain ⟨xi, xq⟩ := x
      simp only at hc0 hc1 hma
      have b1 : (0 : Int) ≤ ((t + k : Nat) : Int) := by omega
      have b2 : ((t + k : Nat) : Int) < (n : Int) := by omega
      go_wp2_with fail
      with_reducible refine (number_any ⟨xi, xq⟩ _ (by simp only; omega) (by simp only; omega)).mono ?_
      rintro e w3 ⟨na, nb, rfl, ga, gb, hk3⟩
      have GA := Lib.hid ga
      have GB := Lib.hid gb
      replace HZ := Lib.hid (HZ.out.keeps hk3)
      replace HK := Lib.hid (HK.out.trans hk3)
      clear hc0 hc1 hk3 ga gb hix b1 b2
      go_wp2_with fail
      with_reducible refine (conj_any A B p.i p.q _ HA.out HB.out).mono ?_
      rintro e w4 ⟨c, d, rfl, hc, hd, rfl⟩
      obtain ⟨re, im, k1, k2, e1⟩ := cmul_int GA.out GB.out hc hd 262144 1 hma.1 hma.2 hpa.1 (by omega) (by decide)
      have e2 := e1 Try.prog 95
      have K1 : FInt re (mprod ⟨xi, xq⟩ p).i := by
        have e : (mprod ⟨xi, xq⟩ p).i = xi * p.i - xq * -p.q := by simp [mprod, Int.mul_neg]
        rw [e]; exact k1
      have K2 : FInt im (mprod ⟨xi, xq⟩ p).q := by
        have e : (mprod ⟨xi, xq⟩ p).q = xi * -p.q + xq * p.i := by simp [mprod, Int.mul_neg]; omega
        rw [e]; exact k2
      obtain ⟨re2, im2, k3, k4, e3⟩ := cadd_int HCA1.out HCB1.out K1 K2 (by omega) (by omega)
      have e4 := e3 Try.prog 95
      have K3 := Lib.hid k3
      have K4 := Lib.hid k4
      clear k1 k2 k3 k4 e1 e3 hc hd K1 K2
      go_wp2_with fail
      with_reducible refine (power_any na nb ⟨xi, xq⟩ 262144 _ GA.out GB.out hma.1 hma.2 (by decide)).mono ?_
      rintro e w5 ⟨pv, rfl, hpv, rfl⟩
      obtain ⟨st2, hf, hst2⟩ := HST.out.add hpv (by omega)
      have e5 := fop_int hf Try.prog 96
      have K5 := Lib.hid hst2
      clear hf hst2 hpv e2 e4
      go_wp2_with fail
      go_roundw
      case rel => exact ⟨k + 1, re2, im2, st2, by omega, by go_num, rfl, rfl, by rw [HS1.out]; exact K3, by rw [HS1.out]; exact K4, by rw [HS2.out]; exact K5, HZ, HK⟩
      case measure => simp [intOf]; omega
    · obtain rfl : k = 8 := by omega
      have hc9 := HCA.out 8
      have hp9 := HPA.out 8
      obtain ⟨C, hC⟩ : ∃ C, C = corrTo ys 8 := ⟨_, rfl⟩
      rw [← hC] at HCA1 HCB1 HR hc9
      obtain ⟨S, hS⟩ : ∃ S, S = powTo ys 8 := ⟨_, rfl⟩
      rw [← hS] at HST HR hp9
      have HIS := Lib.hid (show isB C S = (decide (0 < S) && decide (16 * S ≤ 2 * pw C)) from rfl)
      have hcv := f2i HST.out (by omega) (by omega)
      have hgt := FInt.gt HST.out FInt.zero
      have z0 := HZ.out.cell 0 _ rfl
      have z1 := HZ.out.cell 1 _ rfl
      have zf := HZ.out.frozen
      have zl := HZ.out.lt
      clear hC hS HYG HAB HCA HPA
      go_wp2_with fail
      with_reducible refine (sample_any ca cb C _ HCA1.out HCB1.out (by omega) (by omega)).mono ?_
      rintro e w3 ⟨rfl, hk3⟩
      replace HZ := Lib.hid (HZ.out.keeps hk3)
      replace HK := Lib.hid (HK.out.trans hk3)
      clear hk3 z0 z1 zf zl
      have z0 := HZ.out.cell 0 _ rfl
      have z1 := HZ.out.cell 1 _ rfl
      have zf := HZ.out.frozen
      have zl := HZ.out.lt
      by_cases h0 : 0 < S
      · have hpc : 0 ≤ pw C ∧ pw C ≤ 35184372088832 := by
          have a1 := natAbs_mul_le hc9.1 hc9.1
          have a2 := natAbs_mul_le hc9.2 hc9.2
          have b1 : 0 ≤ C.i * C.i := by rw [← Int.natAbs_mul_self]; omega
          have b2 : 0 ≤ C.q * C.q := by rw [← Int.natAbs_mul_self]; omega
          simp only [pw]
          omega
        have d0 : decide (0 < S) = true := decide_eq_true h0
        rw [d0] at HIS hgt
        clear d0
        go_wp2_with fail
        with_reducible refine (power_any ca cb C 4194304 _ HCA1.out HCB1.out (by omega) (by omega) (by decide)).mono ?_
        rintro e w5 ⟨pv, rfl, hpv, rfl⟩
        obtain ⟨m1, hf1, hm1⟩ := FInt.two.mul hpv (by omega)
        obtain ⟨m2, hf2, hm2⟩ := FInt.sixteen.mul HST.out (by omega)
        have e5 := fop_int hf1 Try.prog 96
        have e6 := fop_int hf2 Try.prog 96
        have hge := FInt.ge hm1 hm2
        obtain ⟨D, hD⟩ : ∃ D, D = decide (16 * S ≤ 2 * pw C) := ⟨_, rfl⟩
        rw [← hD] at hge HIS
        clear hf1 hf2 hm1 hm2 hpv hD hpc
        obtain ⟨Ci, Cq⟩ := C
        go_wp2_with fail
        refine bodyPost_ret (v := .tuple #[.agg #[.int .i64 Ci, .int .i64 Cq], .int .i64 S, .bool D]) (by simp [results, Try.results47, go_sem, *]) rfl ⟨by rw [HR.out, HIS.out]; rfl, ?_⟩
        repeat (with_reducible refine Keeps.setCell ?_ (by first | (simp; done) | (simp; omega) | exact Nat.le_refl _) _)
        exact HK.out
      · have d0 : decide (0 < S) = false := decide_eq_false h0
        rw [d0] at HIS hgt
        clear d0
        obtain ⟨Ci, Cq⟩ := C
        go_wp2_with fail
        refine bodyPost_ret (v := .tuple #[.agg #[.int .i64 Ci, .int .i64 Cq], .int .i64 S, .bool false]) (by simp [results, Try.results47, go_sem, *]) rfl ⟨by rw [HR.out, HIS.out]; rfl, ?_⟩
        repeat (with_reducible refine Keeps.setCell ?_ (by first | (simp; done) | (simp; omega) | exact Nat.le_refl _) _)
        exact HK.out
theorem match_any (a : Option Addr) (n cap : Nat) (xs : List Smp) (at_ : Int) (w : World) (hx : SRow w a n cap xs) (hn : n ≤ 100000) (hb : -9223372036854775808 ≤ at_) :
    Calls Try.prog 47 #[.slice a n cap, .int .i64 at_] w fun e w' => MRes w w' e (matchRes xs at_) := by
  cases h : matchOk n at_
  · exact match_out a n cap xs at_ w hx h hb hn
  · simp only [matchOk, Bool.and_eq_true, decide_eq_true_eq] at h
    obtain ⟨t, rfl⟩ := Int.eq_ofNat_of_zero_le h.1
    cases h2 : allB (partS xs t (t + 8))
    · exact match_bad a n cap xs t w hx (by omega) h2 hn
    · exact match_ok a n cap xs t w hx (by omega) h2 hn
end Go.Proofs.Ytdjbalaicfienaa
