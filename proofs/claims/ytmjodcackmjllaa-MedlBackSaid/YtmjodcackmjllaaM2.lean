/- The walks of layer 7, 1: sizes, airs, kinds. -/
import Derived.Test.YtmjodcackmjllaaM0
namespace Go.Proofs.Ytmjodcackmjllaa
open Go.RowKit
set_option linter.unusedVariables false
set_option linter.unusedSimpArgs false

theorem air_any (n : Int) (w : World) (h1 : n ≤ 9223372036854775000) : Calls Try.prog 72 #[.int .i64 n] w fun e w' => e = .returned (.int .i64 (airI n)) ∧ Keeps w w' := by
  by_cases h : n < 0
  · have hd : decide (n < 0) = true := by simpa using h
    go_enter Try.func72, Try.ntmps72
    go_wp2_with fail
    go_ret
    exact ⟨ret_int (by unfold airI; rw [if_pos (.inl h)]), Keeps.refl _⟩
  have hd : decide (n < 0) = false := by simpa using h
  by_cases h2 : 4095 < n
  · have hd2 : decide (4095 < n) = true := by simpa using h2
    go_enter Try.func72, Try.ntmps72
    go_wp2_with fail
    go_ret
    exact ⟨ret_int (by unfold airI; rw [if_pos (.inr h2)]), Keeps.refl _⟩
  have hd2 : decide (4095 < n) = false := by simpa using h2
  go_enter Try.func72, Try.ntmps72
  go_wp2_with fail
  go_ret
  exact ⟨ret_int (by unfold airI; rw [if_neg (by omega)]), Keeps.refl _⟩

theorem rair_any (n : Int) (w : World) (h1 : n ≤ 9223372036854775000) : Calls Try.prog 75 #[.int .i64 n] w fun e w' => e = .returned (.int .i64 (airI n)) ∧ Keeps w w' := by
  by_cases h : n < 0
  · have hd : decide (n < 0) = true := by simpa using h
    go_enter Try.func75, Try.ntmps75
    go_wp2_with fail
    go_ret
    exact ⟨ret_int (by unfold airI; rw [if_pos (.inl h)]), Keeps.refl _⟩
  have hd : decide (n < 0) = false := by simpa using h
  by_cases h2 : 4095 < n
  · have hd2 : decide (4095 < n) = true := by simpa using h2
    go_enter Try.func75, Try.ntmps75
    go_wp2_with fail
    go_ret
    exact ⟨ret_int (by unfold airI; rw [if_pos (.inr h2)]), Keeps.refl _⟩
  have hd2 : decide (4095 < n) = false := by simpa using h2
  go_enter Try.func75, Try.ntmps75
  go_wp2_with fail
  go_ret
  exact ⟨ret_int (by unfold airI; rw [if_neg (by omega)]), Keeps.refl _⟩

theorem size_any (k d : Int) (w : World) (hk : k = 1 ∨ k = 2 ∨ k = 3 ∨ k = 4) : Calls Try.prog 73 #[.int .i64 k, .int .i64 d] w fun e w' => e = .returned (.int .i64 (sizeI k d)) ∧ Keeps w w' := by
  by_cases h : d < 0
  · have hd : decide (d < 0) = true := by simpa using h
    clear hk
    go_enter Try.func73, Try.ntmps73
    go_wp2_with fail
    go_ret
    exact ⟨ret_int (by unfold sizeI; rw [if_pos (.inl h)]), Keeps.refl _⟩
  have hd : decide (d < 0) = false := by simpa using h
  by_cases h2 : 8 < d
  · have hd2 : decide (8 < d) = true := by simpa using h2
    clear hk
    go_enter Try.func73, Try.ntmps73
    go_wp2_with fail
    go_ret
    exact ⟨ret_int (by unfold sizeI; rw [if_pos (.inr h2)]), Keeps.refl _⟩
  have hd2 : decide (8 < d) = false := by simpa using h2
  by_cases h3 : d = 0
  · subst h3
    clear hd hd2 h h2
    rcases hk with rfl | rfl | rfl | rfl
    all_goals
      go_enter Try.func73, Try.ntmps73
      go_wp2_with fail
      go_ret
      exact ⟨rfl, Keeps.refl _⟩
  · have hd3 : (d == 0) = false := by simpa using h3
    have H := Lib.hid h
    have H2 := Lib.hid h2
    have H3 := Lib.hid h3
    clear h3
    rcases hk with rfl | rfl | rfl | rfl
    all_goals
      go_enter Try.func73, Try.ntmps73
      go_wp2_with fail
      go_ret
      refine ⟨ret_int ?_, Keeps.refl _⟩
      have h3 := H3.out
      unfold sizeI
      rw [if_neg (by omega)]
      simp [h3]

theorem rsize_any (k d : Int) (w : World) (hk : k = 1 ∨ k = 2 ∨ k = 3 ∨ k = 4) : Calls Try.prog 76 #[.int .i64 k, .int .i64 d] w fun e w' => e = .returned (.int .i64 (sizeI k d)) ∧ Keeps w w' := by
  by_cases h : d < 0
  · have hd : decide (d < 0) = true := by simpa using h
    clear hk
    go_enter Try.func76, Try.ntmps76
    go_wp2_with fail
    go_ret
    exact ⟨ret_int (by unfold sizeI; rw [if_pos (.inl h)]), Keeps.refl _⟩
  have hd : decide (d < 0) = false := by simpa using h
  by_cases h2 : 8 < d
  · have hd2 : decide (8 < d) = true := by simpa using h2
    clear hk
    go_enter Try.func76, Try.ntmps76
    go_wp2_with fail
    go_ret
    exact ⟨ret_int (by unfold sizeI; rw [if_pos (.inr h2)]), Keeps.refl _⟩
  have hd2 : decide (8 < d) = false := by simpa using h2
  by_cases h3 : d = 0
  · subst h3
    clear hd hd2 h h2
    rcases hk with rfl | rfl | rfl | rfl
    all_goals
      go_enter Try.func76, Try.ntmps76
      go_wp2_with fail
      go_ret
      exact ⟨rfl, Keeps.refl _⟩
  · have hd3 : (d == 0) = false := by simpa using h3
    have H := Lib.hid h
    have H2 := Lib.hid h2
    have H3 := Lib.hid h3
    clear h3
    rcases hk with rfl | rfl | rfl | rfl
    all_goals
      go_enter Try.func76, Try.ntmps76
      go_wp2_with fail
      go_ret
      refine ⟨ret_int ?_, Keeps.refl _⟩
      have h3 := H3.out
      unfold sizeI
      rw [if_neg (by omega)]
      simp [h3]

theorem kind_any (b : Bool) (d : Int) (w : World) : Calls Try.prog 74 #[.bool b, .int .i64 d] w fun e w' => e = .returned (.int .i64 (kindI b d)) ∧ Keeps w w' := by
  cases b
  · go_enter Try.func74, Try.ntmps74
    go_wp2_with fail
    go_ret
    exact ⟨rfl, Keeps.refl _⟩
  by_cases h : 0 < d
  · have hd : decide (0 < d) = true := by simpa using h
    go_enter Try.func74, Try.ntmps74
    go_wp2_with fail
    go_ret
    exact ⟨ret_int (by unfold kindI; rw [if_pos h]; rfl), Keeps.refl _⟩
  · have hd : decide (0 < d) = false := by simpa using h
    go_enter Try.func74, Try.ntmps74
    go_wp2_with fail
    go_ret
    exact ⟨ret_int (by unfold kindI; rw [if_neg (by omega)]; rfl), Keeps.refl _⟩

theorem rkind_any (b : Bool) (d : Int) (w : World) : Calls Try.prog 77 #[.bool b, .int .i64 d] w fun e w' => e = .returned (.int .i64 (kindI b d)) ∧ Keeps w w' := by
  cases b
  · go_enter Try.func77, Try.ntmps77
    go_wp2_with fail
    go_ret
    exact ⟨rfl, Keeps.refl _⟩
  by_cases h : 0 < d
  · have hd : decide (0 < d) = true := by simpa using h
    go_enter Try.func77, Try.ntmps77
    go_wp2_with fail
    go_ret
    exact ⟨ret_int (by unfold kindI; rw [if_pos h]; rfl), Keeps.refl _⟩
  · have hd : decide (0 < d) = false := by simpa using h
    go_enter Try.func77, Try.ntmps77
    go_wp2_with fail
    go_ret
    exact ⟨ret_int (by unfold kindI; rw [if_neg (by omega)]; rfl), Keeps.refl _⟩

def withinB (n a b : Int) : Bool := decide (a ≤ n) && decide (n ≤ b)
theorem withinB_iff (n a b : Int) : withinB n a b = true ↔ a ≤ n ∧ n ≤ b := by simp [withinB]
theorem within_any (n a b : Int) (w : World) : Calls Try.prog 64 #[.int .i64 n, .int .i64 a, .int .i64 b] w fun e w' => e = .returned (.bool (withinB n a b)) ∧ Keeps w w' := by
  by_cases h : a ≤ n
  · have hd : decide (a ≤ n) = true := by simpa using h
    go_enter Try.func64, Try.ntmps64
    go_wp2_with fail
    go_ret
    exact ⟨ret_bool (by unfold withinB; rw [hd]; rfl), Keeps.refl _⟩
  · have hd : decide (a ≤ n) = false := by simpa using h
    go_enter Try.func64, Try.ntmps64
    go_wp2_with fail
    go_ret
    exact ⟨ret_bool (by unfold withinB; rw [hd]; rfl), Keeps.refl _⟩
end Go.Proofs.Ytmjodcackmjllaa
