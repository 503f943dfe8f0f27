/- The walks of layer 3, 9: quarters on both sides. -/
import Derived.Test.YtdjbalaicfienaaP11
import Derived.Test.YtdjbalaicfienaaLater
import Derived.Deep.QuietTactic
import Derived.BigQuiet
namespace Go.Proofs.Ytdjbalaicfienaa
open Go.RowKit
set_option linter.unusedVariables false
set_option linter.unusedSimpArgs false
/-- the quarter in which a number lies -/
def quarterN (c : Smp) : Int :=
  cond (decide (0 < c.i) && decide ((c.q.natAbs : Int) ≤ c.i.natAbs)) 0
    (cond (decide (0 < c.q) && decide ((c.i.natAbs : Int) ≤ c.q.natAbs)) 1
      (cond (decide (c.i < 0) && decide ((c.q.natAbs : Int) ≤ c.i.natAbs)) 2 3))
set_option maxRecDepth 100000 in
set_option maxHeartbeats 4000000 in
theorem quarter_any (c : Smp) (w : World) (h1 : c.i.natAbs < 2 ^ 53) (h2 : c.q.natAbs < 2 ^ 53) : Calls Try.prog 84 #[c.val] w fun e w' => e = .returned (.int .i64 (quarterN c)) ∧ Keeps w w' := by
  obtain ⟨i, q⟩ := c
  simp only at h1 h2
  have hn1 : IntKind.i64.wrap (-i) = -i := wrap_small (by omega)
  have hn2 : IntKind.i64.wrap (-q) = -q := wrap_small (by omega)
  have hm1 : (if i < -i then -i else i) = (i.natAbs : Int) := by split <;> omega
  have hm2 : (if q < -q then -q else q) = (q.natAbs : Int) := by split <;> omega
  have HR := Lib.hid (show quarterN ⟨i, q⟩ = cond (decide (0 < i) && decide ((q.natAbs : Int) ≤ i.natAbs)) 0 (cond (decide (0 < q) && decide ((i.natAbs : Int) ≤ q.natAbs)) 1 (cond (decide (i < 0) && decide ((q.natAbs : Int) ≤ i.natAbs)) 2 3)) from rfl)
  obtain ⟨R, hR⟩ : ∃ R, R = quarterN ⟨i, q⟩ := ⟨_, rfl⟩
  rw [← hR] at HR ⊢
  obtain ⟨A, hA⟩ : ∃ A, A = (i.natAbs : Int) := ⟨_, rfl⟩
  obtain ⟨B, hB⟩ : ∃ B, B = (q.natAbs : Int) := ⟨_, rfl⟩
  rw [← hA, ← hB] at HR
  rw [← hA] at hm1
  rw [← hB] at hm2
  have HZ := Lib.hid (Box.new w 63 #[.int .i64 i, .int .i64 q])
  have HK := Lib.hid ((Keeps.refl w).alloc (.cells #[.int .i64 i, .int .i64 q] 63))
  clear hR hA hB h1 h2
  show Calls Try.prog 84 #[.agg #[.int .i64 i, .int .i64 q]] w _
  cases d1 : decide (0 < i) <;> cases d2 : decide (B ≤ A) <;> cases d3 : decide (0 < q) <;> cases d4 : decide (A ≤ B) <;> cases d5 : decide (i < 0)
  all_goals
    rw [d1, d2, d3, d4, d5] at HR
    have HRR := Lib.hid HR.out
    go_enter Try.func84, Try.ntmps84
    go_wp2_with fail
    go_quiet (fail)
    go_wp2_with fail
    go_ret
    exact ⟨by rw [HRR.out]; rfl, HK.out.drewN _⟩
set_option maxRecDepth 100000 in
set_option maxHeartbeats 1000000 in
theorem abs_any (z : Int) (w : World) (h : z.natAbs < 2 ^ 53) : Calls Try.prog 101 #[.int .i64 z] w fun e w' => e = .returned (.int .i64 (z.natAbs : Int)) ∧ Keeps w w' := by
  have hn1 : IntKind.i64.wrap (-z) = -z := wrap_small (by omega)
  by_cases h0 : z < 0
  · have hd : decide (z < 0) = true := decide_eq_true h0
    have e : (z.natAbs : Int) = -z := by omega
    rw [e]
    go_enter Try.func101, Try.ntmps101
    go_wp2_with fail
    go_ret
    exact ⟨rfl, Keeps.refl _⟩
  · have hd : decide (z < 0) = false := decide_eq_false h0
    have e : (z.natAbs : Int) = z := by omega
    rw [e]
    go_enter Try.func101, Try.ntmps101
    go_wp2_with fail
    go_ret
    exact ⟨rfl, Keeps.refl _⟩
set_option maxRecDepth 100000 in
set_option maxHeartbeats 16000000 in
theorem rquarters_any (c : Smp) (w : World) (h1 : c.i.natAbs < 2 ^ 53) (h2 : c.q.natAbs < 2 ^ 53) : Calls Try.prog 85 #[c.val] w fun e w' => e = .returned (.int .i64 (quarterN c)) ∧ Keeps w w' := by
  obtain ⟨i, q⟩ := c
  simp only at h1 h2
  have hn1 : IntKind.i64.wrap (-i) = -i := wrap_small (by omega)
  have HR := Lib.hid (show quarterN ⟨i, q⟩ = cond (decide (0 < i) && decide ((q.natAbs : Int) ≤ i.natAbs)) 0 (cond (decide (0 < q) && decide ((i.natAbs : Int) ≤ q.natAbs)) 1 (cond (decide (i < 0) && decide ((q.natAbs : Int) ≤ i.natAbs)) 2 3)) from rfl)
  obtain ⟨R, hR⟩ : ∃ R, R = quarterN ⟨i, q⟩ := ⟨_, rfl⟩
  rw [← hR] at HR ⊢
  have HAI : Hid (∀ u : World, Calls Try.prog 101 #[.int .i64 i] u fun e w' => e = .returned (.int .i64 (i.natAbs : Int)) ∧ Keeps u w') := Lib.hid (fun u => abs_any i u h1)
  have HAQ : Hid (∀ u : World, Calls Try.prog 101 #[.int .i64 q] u fun e w' => e = .returned (.int .i64 (q.natAbs : Int)) ∧ Keeps u w') := Lib.hid (fun u => abs_any q u h2)
  obtain ⟨A, hA⟩ : ∃ A, A = (i.natAbs : Int) := ⟨_, rfl⟩
  obtain ⟨B, hB⟩ : ∃ B, B = (q.natAbs : Int) := ⟨_, rfl⟩
  rw [← hA] at HAI
  rw [← hB] at HAQ
  rw [← hA, ← hB] at HR
  have HF2 : Hid (decide (0 < i) = true → decide (B ≤ i) = decide (B ≤ A)) := Lib.hid (fun h => decide_eq_decide.2 (by have := of_decide_eq_true h; omega))
  have HF4 : Hid (decide (0 < q) = true → decide (A ≤ q) = decide (A ≤ B)) := Lib.hid (fun h => decide_eq_decide.2 (by have := of_decide_eq_true h; omega))
  have HF6 : Hid (decide (i < 0) = true → decide (B ≤ -i) = decide (B ≤ A)) := Lib.hid (fun h => decide_eq_decide.2 (by have := of_decide_eq_true h; omega))
  have HZ := Lib.hid (Box.new w 63 #[.int .i64 i, .int .i64 q])
  have HK := Lib.hid ((Keeps.refl w).alloc (.cells #[.int .i64 i, .int .i64 q] 63))
  clear hR hA hB h1 h2
  show Calls Try.prog 85 #[.agg #[.int .i64 i, .int .i64 q]] w _
  cases d1 : decide (0 < i) <;> cases d2 : decide (B ≤ A) <;> cases d3 : decide (0 < q) <;> cases d4 : decide (A ≤ B) <;> cases d5 : decide (i < 0)
  all_goals
    rw [d1, d2, d3, d4, d5] at HR
    have HRR := Lib.hid HR.out
    try (have g2 := HF2.out d1; rw [d2] at g2)
    try (have g4 := HF4.out d3; rw [d4] at g4)
    try (have g6 := HF6.out d5; rw [d2] at g6)
    go_enter Try.func85, Try.ntmps85
    go_wp2_with fail
    obtain ⟨W, hW⟩ : ∃ W, W = w.alloc (.cells #[.int .i64 i, .int .i64 q] 63) := ⟨_, rfl⟩
    rw [← hW] at HZ HK ⊢
    clear hW
    have z0 := HZ.out.later 0 _ rfl
    have z1 := HZ.out.later 1 _ rfl
    refine wp_region_later (by kernel_rfl) (by kernel_rfl) ?_
    repeat (go_big_quiet_step (first | (go_at_call 101; with_reducible exact Later.calls _ (HAI.out _)) | (go_at_call 101; with_reducible exact Later.calls _ (HAQ.out _))))
    refine wpQuiet_nil ?_
    rintro _ ⟨k, rfl⟩
    obtain ⟨W2, hk2⟩ := k
    simp only
    replace HZ := Lib.hid (HZ.out.keeps hk2)
    replace HK := Lib.hid (HK.out.trans hk2)
    clear z0 z1 hk2
    go_wp2_with fail
    try (
      have z0 := HZ.out.later 0 _ rfl
      have z1 := HZ.out.later 1 _ rfl
      refine wp_region_later (by kernel_rfl) (by kernel_rfl) ?_
      repeat (go_big_quiet_step (first | (go_at_call 101; with_reducible exact Later.calls _ (HAI.out _)) | (go_at_call 101; with_reducible exact Later.calls _ (HAQ.out _))))
      refine wpQuiet_nil ?_
      rintro _ ⟨k, rfl⟩
      obtain ⟨W3, hk3⟩ := k
      simp only
      replace HZ := Lib.hid (HZ.out.keeps hk3)
      replace HK := Lib.hid (HK.out.trans hk3)
      clear z0 z1 hk3
      go_wp2_with fail)
    try (
      have z0 := HZ.out.later 0 _ rfl
      have z1 := HZ.out.later 1 _ rfl
      refine wp_region_later (by kernel_rfl) (by kernel_rfl) ?_
      repeat (go_big_quiet_step (first | (go_at_call 101; with_reducible exact Later.calls _ (HAI.out _)) | (go_at_call 101; with_reducible exact Later.calls _ (HAQ.out _))))
      refine wpQuiet_nil ?_
      rintro _ ⟨k, rfl⟩
      obtain ⟨W4, hk4⟩ := k
      simp only
      replace HZ := Lib.hid (HZ.out.keeps hk4)
      replace HK := Lib.hid (HK.out.trans hk4)
      clear z0 z1 hk4
      go_wp2_with fail)
    go_ret
    exact ⟨by rw [HRR.out]; rfl, HK.out⟩
end Go.Proofs.Ytdjbalaicfienaa
