/- The walks of the reference of layer 4, 1: Check. -/
import Derived.Test.YtmjodcackmjllaaC1
namespace Go.Proofs.Ytmjodcackmjllaa
open Go.RowKit
set_option linter.unusedVariables false
set_option linter.unusedSimpArgs false

set_option maxHeartbeats 4000000 in
set_option maxRecDepth 100000 in
theorem rccheck_any (c : CS) (n : Int) (w : World) :
    Calls Try.prog 59 #[c.val, .int .i64 n] w fun e w' => e = .returned (.int .i64 (csErr c n)) ∧ Keeps w w' := by
  obtain ⟨t, p, m, x, b⟩ := c
  show Calls Try.prog 59 #[.agg #[.int .i64 t, .int .i64 p, .int .i64 m, .int .i64 x, .int .i64 b], .int .i64 n] w _
  by_cases hn1 : n < 4
  · have hd : decide (n < 4) = true := by simpa using hn1
    have HR := Lib.hid (show csErr ⟨t, p, m, x, b⟩ n = 2 by unfold csErr; rw [if_neg]; rw [csN_iff]; omega)
    go_enter Try.func59, Try.ntmps59
    go_wp2_with fail
    go_ret
    exact ⟨by rw [HR.out]; rfl, (Keeps.refl w).alloc _⟩
  have hd : decide (n < 4) = false := by simpa using hn1
  by_cases hn2 : 8 < n
  · have hd2 : decide (8 < n) = true := by simpa using hn2
    have HR := Lib.hid (show csErr ⟨t, p, m, x, b⟩ n = 2 by unfold csErr; rw [if_neg]; rw [csN_iff]; omega)
    go_enter Try.func59, Try.ntmps59
    go_wp2_with fail
    go_ret
    exact ⟨by rw [HR.out]; rfl, (Keeps.refl w).alloc _⟩
  have hd2 : decide (8 < n) = false := by simpa using hn2
  have HN := Lib.hid ((csN_iff n).2 (by omega))
  have HNO : Hid (¬ (0 ≤ t ∧ t ≤ 255 ∧ 0 ≤ p ∧ p < n ∧ 0 ≤ m ∧ m < 4 ∧ 0 ≤ x ∧ x ≤ 4 ∧ 0 ≤ b ∧ b < 2 ^ n.toNat) → csErr ⟨t, p, m, x, b⟩ n = 40) := by
    intro h
    unfold csErr
    rw [if_pos HN.out, if_neg]
    rw [csOk_iff]
    exact h
  by_cases h0 : t < 0
  · have e0 : decide (t < 0) = true := by simpa using h0
    have HR := Lib.hid (HNO.out (by omega))
    go_enter Try.func59, Try.ntmps59
    go_wp2_with fail
    go_ret
    exact ⟨by rw [HR.out]; rfl, (Keeps.refl w).alloc _⟩
  have e0 : decide (t < 0) = false := by simpa using h0
  by_cases h1 : 255 < t
  · have e1 : decide (255 < t) = true := by simpa using h1
    have HR := Lib.hid (HNO.out (by omega))
    go_enter Try.func59, Try.ntmps59
    go_wp2_with fail
    go_ret
    exact ⟨by rw [HR.out]; rfl, (Keeps.refl w).alloc _⟩
  have e1 : decide (255 < t) = false := by simpa using h1
  by_cases h2 : p < 0
  · have e2 : decide (p < 0) = true := by simpa using h2
    have HR := Lib.hid (HNO.out (by omega))
    go_enter Try.func59, Try.ntmps59
    go_wp2_with fail
    go_ret
    exact ⟨by rw [HR.out]; rfl, (Keeps.refl w).alloc _⟩
  have e2 : decide (p < 0) = false := by simpa using h2
  by_cases h3 : n ≤ p
  · have e3 : decide (n ≤ p) = true := by simpa using h3
    have HR := Lib.hid (HNO.out (by omega))
    go_enter Try.func59, Try.ntmps59
    go_wp2_with fail
    go_ret
    exact ⟨by rw [HR.out]; rfl, (Keeps.refl w).alloc _⟩
  have e3 : decide (n ≤ p) = false := by simpa using h3
  by_cases h4 : m < 0
  · have e4 : decide (m < 0) = true := by simpa using h4
    have HR := Lib.hid (HNO.out (by omega))
    go_enter Try.func59, Try.ntmps59
    go_wp2_with fail
    go_ret
    exact ⟨by rw [HR.out]; rfl, (Keeps.refl w).alloc _⟩
  have e4 : decide (m < 0) = false := by simpa using h4
  by_cases h5 : 4 ≤ m
  · have e5 : decide (4 ≤ m) = true := by simpa using h5
    have HR := Lib.hid (HNO.out (by omega))
    go_enter Try.func59, Try.ntmps59
    go_wp2_with fail
    go_ret
    exact ⟨by rw [HR.out]; rfl, (Keeps.refl w).alloc _⟩
  have e5 : decide (4 ≤ m) = false := by simpa using h5
  by_cases h6 : x < 0
  · have e6 : decide (x < 0) = true := by simpa using h6
    have HR := Lib.hid (HNO.out (by omega))
    go_enter Try.func59, Try.ntmps59
    go_wp2_with fail
    go_ret
    exact ⟨by rw [HR.out]; rfl, (Keeps.refl w).alloc _⟩
  have e6 : decide (x < 0) = false := by simpa using h6
  by_cases h7 : 4 < x
  · have e7 : decide (4 < x) = true := by simpa using h7
    have HR := Lib.hid (HNO.out (by omega))
    go_enter Try.func59, Try.ntmps59
    go_wp2_with fail
    go_ret
    exact ⟨by rw [HR.out]; rfl, (Keeps.refl w).alloc _⟩
  have e7 : decide (4 < x) = false := by simpa using h7
  by_cases h8 : b < 0
  · have e8 : decide (b < 0) = true := by simpa using h8
    have HR := Lib.hid (HNO.out (by omega))
    go_enter Try.func59, Try.ntmps59
    go_wp2_with fail
    go_ret
    exact ⟨by rw [HR.out]; rfl, (Keeps.refl w).alloc _⟩
  have e8 : decide (b < 0) = false := by simpa using h8
  obtain ⟨N, hN⟩ : ∃ N : Int, N = 2 ^ n.toNat := ⟨_, rfl⟩
  have hn : n = 4 ∨ n = 5 ∨ n = 6 ∨ n = 7 ∨ n = 8 := by omega
  have hshl : wrap64 (2 ^ n.toNat) = N := by
    subst hN
    rcases hn with rfl | rfl | rfl | rfl | rfl <;> decide +kernel
  have HNN := Lib.hid hN
  by_cases h9 : N ≤ b
  · have HR := Lib.hid (HNO.out (by rw [← HNN.out]; omega))
    have e9 : decide (wrap64 (2 ^ n.toNat) ≤ b) = true := by rw [hshl]; simpa using h9
    clear hN hshl hn
    go_enter Try.func59, Try.ntmps59
    go_wp2_with fail
    go_ret
    exact ⟨by rw [HR.out]; rfl, (Keeps.refl w).alloc _⟩
  have e9 : decide (wrap64 (2 ^ n.toNat) ≤ b) = false := by rw [hshl]; simpa using h9
  have HR := Lib.hid (show csErr ⟨t, p, m, x, b⟩ n = 0 by
    unfold csErr
    rw [if_pos HN.out, if_pos]
    rw [csOk_iff]
    simp only
    rw [← hN]
    omega)
  clear hN hshl hn
  go_enter Try.func59, Try.ntmps59
  go_wp2_with fail
  go_ret
  exact ⟨by rw [HR.out]; rfl, (Keeps.refl w).alloc _⟩
end Go.Proofs.Ytmjodcackmjllaa
