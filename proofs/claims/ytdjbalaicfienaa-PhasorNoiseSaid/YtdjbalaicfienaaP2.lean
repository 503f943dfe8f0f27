/- The walks of layer 3, 1: number, sample, conj, may, point, unit, preamble. -/
import Derived.Test.YtdjbalaicfienaaP1
import Derived.Laws.Cover2
import Derived.Laws.Cover3
namespace Go.Proofs.Ytdjbalaicfienaa
open Go.RowKit
set_option linter.unusedVariables false
set_option linter.unusedSimpArgs false
set_option maxRecDepth 100000 in
set_option maxHeartbeats 1000000 in
theorem number_any (s : Smp) (w : World) (h1 : s.i.natAbs < 2 ^ 53) (h2 : s.q.natAbs < 2 ^ 53) :
    Calls Try.prog 79 #[s.val] w fun e w' => ∃ a b, e = .returned (.complex .f64 a b) ∧ FInt a s.i ∧ FInt b s.q ∧ Keeps w w' := by
  have ha := FInt.ofInt s.i h1
  have hb := FInt.ofInt s.q h2
  obtain ⟨i, q⟩ := s
  simp only at ha hb
  have HA := Lib.hid ha
  have HB := Lib.hid hb
  clear h1 h2 ha hb
  show Calls Try.prog 79 #[.agg #[.int .i64 i, .int .i64 q]] w _
  go_enter Try.func79, Try.ntmps79
  go_wp2_with fail
  go_ret
  exact ⟨_, _, rfl, HA.out, HB.out, (Keeps.refl w).alloc _⟩
set_option maxRecDepth 100000 in
set_option maxHeartbeats 1000000 in
theorem sample_any (a b : Nat) (s : Smp) (w : World) (ha : FInt a s.i) (hb : FInt b s.q) (h1 : s.i.natAbs < 2 ^ 53) (h2 : s.q.natAbs < 2 ^ 53) :
    Calls Try.prog 73 #[.complex .f64 a b] w fun e w' => e = .returned s.val ∧ Keeps w w' := by
  have hi := f2i ha (by omega) (by omega)
  have hq := f2i hb (by omega) (by omega)
  obtain ⟨i, q⟩ := s
  simp only at hi hq
  clear ha hb h1 h2
  go_enter Try.func73, Try.ntmps73
  go_wp2_with fail
  refine bodyPost_ret (v := .agg #[.int .i64 i, .int .i64 q]) (by simp [results, Try.results73, go_sem, *]) rfl ⟨rfl, ?_⟩
  repeat (with_reducible refine Keeps.setCell ?_ (by first | (simp; done) | (simp; omega) | exact Nat.le_refl _) _)
  exact (Keeps.refl w).alloc _
set_option maxRecDepth 100000 in
set_option maxHeartbeats 1000000 in
theorem conj_any (a b : Nat) (x y : Int) (w : World) (ha : FInt a x) (hb : FInt b y) :
    Calls Try.prog 80 #[.complex .f64 a b] w fun e w' => ∃ c d, e = .returned (.complex .f64 c d) ∧ FInt c x ∧ FInt d (-y) ∧ w' = w := by
  have HA := Lib.hid ha
  have HB := Lib.hid hb.neg
  have hneg : ∀ w : World, (Op.unary .neg (.float .f64 b)).run Try.prog w = .ok (.float .f64 (Op.negFloat .f64 b)) w := fun w => rfl
  clear ha hb
  go_enter Try.func80, Try.ntmps80
  go_wp2_with fail
  go_ret
  exact ⟨_, _, rfl, HA.out, HB.out, rfl⟩
def mayB (s : Smp) : Bool := decide (-262144 ≤ s.i) && decide (s.i ≤ 262144) && decide (-262144 ≤ s.q) && decide (s.q ≤ 262144)
theorem mayB_iff (s : Smp) : mayB s = true ↔ -262144 ≤ s.i ∧ s.i ≤ 262144 ∧ -262144 ≤ s.q ∧ s.q ≤ 262144 := by
  unfold mayB
  simp only [Bool.and_eq_true, decide_eq_true_eq, and_assoc]
set_option maxRecDepth 100000 in
set_option maxHeartbeats 1000000 in
theorem may_any (s : Smp) (w : World) : Calls Try.prog 99 #[s.val] w fun e w' => e = .returned (.bool (mayB s)) ∧ Keeps w w' := by
  obtain ⟨i, q⟩ := s
  have HM := Lib.hid (show mayB ⟨i, q⟩ = (decide (-262144 ≤ i) && decide (i ≤ 262144) && decide (-262144 ≤ q) && decide (q ≤ 262144)) from rfl)
  obtain ⟨M, hM⟩ : ∃ M, M = mayB ⟨i, q⟩ := ⟨_, rfl⟩
  rw [← hM] at HM ⊢
  clear hM
  show Calls Try.prog 99 #[.agg #[.int .i64 i, .int .i64 q]] w _
  cases h1 : decide (-262144 ≤ i)
  · rw [h1] at HM
    go_enter Try.func99, Try.ntmps99
    go_wp2_with fail
    go_ret
    exact ⟨by rw [HM.out]; rfl, (Keeps.refl w).alloc _⟩
  cases h2 : decide (i ≤ 262144)
  · rw [h1, h2] at HM
    go_enter Try.func99, Try.ntmps99
    go_wp2_with fail
    go_ret
    exact ⟨by rw [HM.out]; rfl, (Keeps.refl w).alloc _⟩
  cases h3 : decide (-262144 ≤ q)
  · rw [h1, h2, h3] at HM
    go_enter Try.func99, Try.ntmps99
    go_wp2_with fail
    go_ret
    exact ⟨by rw [HM.out]; rfl, (Keeps.refl w).alloc _⟩
  cases h4 : decide (q ≤ 262144)
  all_goals
    rw [h1, h2, h3, h4] at HM
    go_enter Try.func99, Try.ntmps99
    go_wp2_with fail
    go_ret
    exact ⟨by rw [HM.out]; rfl, (Keeps.refl w).alloc _⟩
/-- two bits as a point -/
def ptOf (t : Nat) : Smp := ⟨if t / 1 % 2 = 1 then -1 else 1, if t / 2 % 2 = 1 then -1 else 1⟩
set_option maxRecDepth 100000 in
set_option maxHeartbeats 1000000 in
theorem point_any (t : Nat) (w : World) (ht : t < 4) : Calls Try.prog 97 #[.int .u64 t] w fun e w' => ∃ a b, e = .returned (.complex .f64 a b) ∧ FInt a (ptOf t).i ∧ FInt b (ptOf t).q ∧ w' = w := by
  match t, ht with
  | 0, _ =>
    go_enter Try.func97, Try.ntmps97
    go_wp2_with fail
    go_ret
    exact ⟨_, _, rfl, FInt.one, FInt.one, rfl⟩
  | 1, _ =>
    go_enter Try.func97, Try.ntmps97
    go_wp2_with fail
    go_ret
    exact ⟨_, _, rfl, FInt.mone, FInt.one, rfl⟩
  | 2, _ =>
    go_enter Try.func97, Try.ntmps97
    go_wp2_with fail
    go_ret
    exact ⟨_, _, rfl, FInt.one, FInt.mone, rfl⟩
  | 3, _ =>
    go_enter Try.func97, Try.ntmps97
    go_wp2_with fail
    go_ret
    exact ⟨_, _, rfl, FInt.mone, FInt.mone, rfl⟩
/-- so many quarter turns -/
def qOf (q : Int) : Nat := ((q.tmod 4 + 4).tmod 4).toNat
def unitOf : Nat → Int × Int
  | 0 => (1, 0)
  | 1 => (0, 1)
  | 2 => (-1, 0)
  | _ => (0, -1)
theorem qOf_cases (q : Int) : ∃ k : Nat, k < 4 ∧ qOf q = k ∧ (q.tmod 4 + 4).tmod 4 = k := by
  have h := Int.tmod_lt_of_pos q (show (0 : Int) < 4 by decide)
  have h' : -4 < q.tmod 4 := by
    have := Int.lt_tmod_of_pos q (show (0 : Int) < 4 by decide)
    omega
  unfold qOf
  rw [Int.tmod_eq_emod_of_nonneg (show (0 : Int) ≤ q.tmod 4 + 4 by omega)]
  exact ⟨((q.tmod 4 + 4) % 4).toNat, by omega, rfl, by omega⟩
set_option maxRecDepth 100000 in
set_option maxHeartbeats 2000000 in
theorem unit_any (q : Int) (w : World) (h1 : -9223372036854775808 ≤ q) (h2 : q ≤ 9223372036854775807) :
    Calls Try.prog 78 #[.int .i64 q] w fun e w' => ∃ a b, e = .returned (.complex .f64 a b) ∧ FInt a (unitOf (qOf q)).1 ∧ FInt b (unitOf (qOf q)).2 ∧ w' = w := by
  obtain ⟨k, hk, hq, hm⟩ := qOf_cases q
  have hb1 := Int.tmod_lt_of_pos q (show (0 : Int) < 4 by decide)
  have hb2 := Int.lt_tmod_of_pos q (show (0 : Int) < 4 by decide)
  have hw : IntKind.i64.wrap (q.tmod 4 + 4) = q.tmod 4 + 4 := by simp [IntKind.wrap, IntKind.bits, IntKind.signed]; omega
  rw [hq]
  clear hq hb1 hb2
  go_enter Try.func78, Try.ntmps78
  go_wp2_with fail
  clear hw
  go_loopw [3, 8] (fun c i wr => ∃ (j a b : Nat), j ≤ k ∧ i = .int .i64 j ∧ c = .complex .f64 a b ∧ Hid (FInt a (unitOf j).1) ∧ Hid (FInt b (unitOf j).2) ∧ wr = w) (fun _ i _ => k - (intOf i).toNat)
  case atStart => exact ⟨0, _, _, Nat.zero_le _, rfl, rfl, FInt.one, FInt.zero, rfl⟩
  case round =>
    obtain ⟨j, a, b, hj, rfl, rfl, HA, HB, rfl⟩ := hrel
    by_cases hlt : j < k
    · have hu1 : (unitOf j).1.natAbs ≤ 1 ∧ (unitOf j).2.natAbs ≤ 1 := by
        match j, (show j < 3 by omega) with
        | 0, _ => decide
        | 1, _ => decide
        | 2, _ => decide
      obtain ⟨re, im, k1, k2, e1⟩ := cmul_int HA.out HB.out FInt.zero FInt.one 1 1 hu1.1 hu1.2 (by decide) (by decide) (by decide)
      have e2 := e1 Try.prog 95
      have hs : (unitOf j).1 * 0 - (unitOf j).2 * 1 = (unitOf (j + 1)).1 ∧ (unitOf j).1 * 1 + (unitOf j).2 * 0 = (unitOf (j + 1)).2 := by
        match j, (show j < 3 by omega) with
        | 0, _ => decide
        | 1, _ => decide
        | 2, _ => decide
      rw [hs.1] at k1
      rw [hs.2] at k2
      have K1 := Lib.hid k1
      have K2 := Lib.hid k2
      clear k1 k2 hs e1 hu1
      go_wp2_with fail
      go_roundw
      case rel => exact ⟨j + 1, _, _, by omega, by go_num, rfl, K1, K2, trivial⟩
      case measure => simp [intOf]; omega
    · obtain rfl : j = k := by omega
      go_wp2_with fail
      go_ret
      exact ⟨_, _, rfl, HA.out, HB.out, rfl⟩
end Go.Proofs.Ytdjbalaicfienaa
