/- The walks of layer 4, 4: a node's bit, With, Without, Has, on both sides. -/
import Derived.Test.YtdjbalaicfienaaC9
import Derived.Test.YtdjbalaicfienaaQTail
import Derived.Deep.QuietTactic
import Derived.BigQuiet
namespace Go.Proofs.Ytdjbalaicfienaa
open Go.RowKit
set_option linter.unusedVariables false
set_option linter.unusedSimpArgs false

def isNode (n : Int) : Bool := decide (0 ≤ n) && decide (n < 8)
def bitOf (n : Int) : Int := if isNode n then 2 ^ n.toNat else 0
def withOf (c : CS) (n : Int) : CS := ⟨c.t, c.p, c.m, c.x, bits .or .i64 c.b (bitOf n)⟩
def withoutOf (c : CS) (n : Int) : CS := ⟨c.t, c.p, c.m, c.x, bits .andNot .i64 c.b (bitOf n)⟩
def hasOf (c : CS) (n : Int) : Bool := bits .and .i64 c.b (bitOf n) != 0
theorem isNode_cases {n : Int} (h : isNode n = true) : n = 0 ∨ n = 1 ∨ n = 2 ∨ n = 3 ∨ n = 4 ∨ n = 5 ∨ n = 6 ∨ n = 7 := by
  simp only [isNode, Bool.and_eq_true, decide_eq_true_eq] at h
  omega
theorem bitOf_no {n : Int} (h : isNode n = false) : bitOf n = 0 := by simp [bitOf, h]
theorem bits_id (b : Int) (h1 : -9223372036854775808 ≤ b) (h2 : b ≤ 9223372036854775807) : IntKind.i64.wrap ((BitVec.ofInt 64 b).toNat : Int) = b := by
  rw [BitVec.toNat_ofInt, IntKind.wrap_i64]
  omega
theorem or_zero64 (b : Int) (h1 : -9223372036854775808 ≤ b) (h2 : b ≤ 9223372036854775807) : bits .or .i64 b 0 = b := by
  show IntKind.i64.wrap ((BitVec.ofInt 64 b ||| BitVec.ofInt 64 0).toNat : Int) = b
  rw [show BitVec.ofInt 64 0 = 0#64 from rfl, BitVec.or_zero]
  exact bits_id b h1 h2
theorem andNot_zero64 (b : Int) (h1 : -9223372036854775808 ≤ b) (h2 : b ≤ 9223372036854775807) : bits .andNot .i64 b 0 = b := by
  show IntKind.i64.wrap ((BitVec.ofInt 64 b &&& ~~~ BitVec.ofInt 64 0).toNat : Int) = b
  rw [show ~~~ BitVec.ofInt 64 0 = BitVec.allOnes 64 from rfl, BitVec.and_allOnes]
  exact bits_id b h1 h2
theorem and_zero64 (b : Int) : bits .and .i64 b 0 = 0 := by
  show IntKind.i64.wrap ((BitVec.ofInt 64 b &&& BitVec.ofInt 64 0).toNat : Int) = 0
  rw [show BitVec.ofInt 64 0 = 0#64 from rfl, BitVec.and_zero]
  rfl
theorem withOf_no {c : CS} {n : Int} (hc : c.In) (h : isNode n = false) : withOf c n = c := by
  simp only [withOf, bitOf_no h, or_zero64 c.b hc.b1 hc.b2]
theorem withoutOf_no {c : CS} {n : Int} (hc : c.In) (h : isNode n = false) : withoutOf c n = c := by
  simp only [withoutOf, bitOf_no h, andNot_zero64 c.b hc.b1 hc.b2]
theorem hasOf_no {c : CS} {n : Int} (h : isNode n = false) : hasOf c n = false := by
  simp only [hasOf, bitOf_no h, and_zero64]; rfl

theorem bit_any (n : Int) (w : World) :
    Calls Try.prog 69 #[.int .i64 n] w fun e w' => e = .returned (.int .i64 (bitOf n)) ∧ w' = w := by
  cases h : isNode n
  · rw [show bitOf n = 0 from by simp [bitOf, h]]
    simp only [isNode, Bool.and_eq_false_iff, decide_eq_false_iff_not] at h
    by_cases h0 : n < 0
    · have hd : decide (n < 0) = true := by simpa using h0
      clear h
      go_enter Try.func69, Try.ntmps69
      go_wp2
      go_ret
      exact ⟨rfl, rfl⟩
    · have hd : decide (n < 0) = false := by simpa using h0
      have hd2 : decide (8 ≤ n) = true := by simp; omega
      clear h
      go_enter Try.func69, Try.ntmps69
      go_wp2
      go_ret
      exact ⟨rfl, rfl⟩
  · rcases isNode_cases h with rfl | rfl | rfl | rfl | rfl | rfl | rfl | rfl
    all_goals
      clear h
      go_enter Try.func69, Try.ntmps69
      go_wp2
      go_ret
      exact ⟨rfl, rfl⟩
theorem node_any (n : Int) (w : World) :
    Calls Try.prog 70 #[.int .i64 n] w fun e w' => e = .returned (.bool (isNode n)) ∧ w' = w := by
  by_cases h0 : 0 ≤ n
  · have hd : decide (0 ≤ n) = true := by simpa using h0
    have hi : isNode n = decide (n < 8) := by simp [isNode, hd]
    rw [hi]
    by_cases h1 : n < 8
    · have hd2 : decide (n < 8) = true := by simpa using h1
      rw [hd2]
      go_enter Try.func70, Try.ntmps70
      go_wp2
      go_ret
      exact ⟨rfl, rfl⟩
    · have hd2 : decide (n < 8) = false := by simpa using h1
      rw [hd2]
      go_enter Try.func70, Try.ntmps70
      go_wp2
      go_ret
      exact ⟨rfl, rfl⟩
  · have hd : decide (0 ≤ n) = false := by simpa using h0
    have hi : isNode n = false := by simp [isNode, hd]
    rw [hi]
    go_enter Try.func70, Try.ntmps70
    go_wp2
    go_ret
    exact ⟨rfl, rfl⟩

theorem cwith_any (c : CS) (n : Int) (w : World) :
    Calls Try.prog 24 #[c.val, .int .i64 n] w fun e w' => e = .returned (CS.val (withOf c n)) ∧ Keeps w w' := by
  obtain ⟨t, p, m, x, b⟩ := c
  show Calls Try.prog 24 #[.agg #[.int .i64 t, .int .i64 p, .int .i64 m, .int .i64 x, .int .i64 b], .int .i64 n] w _
  go_enter Try.func24, Try.ntmps24
  go_wp2_with fail
  refine wp_region_quiet_tail_lit 6 (by kernel_rfl) (by kernel_rfl) ?_
  simp only [List.take_succ_cons, List.take_zero, List.drop_succ_cons, List.drop_zero]
  repeat (go_big_quiet_step ((go_at_call 69; exact Calls.quiet_of_same (bit_any n _))))
  refine wpQuiet_nil ?_
  rintro _ ⟨nq, rfl⟩
  go_wp2_with fail
  refine bodyPost_ret (by simp [results, Try.results24, go_sem, withOf]) rfl ⟨rfl, ?_⟩
  repeat (first | with_reducible exact Keeps.refl _ | with_reducible refine Keeps.setCell ?_ (by simp) _ | with_reducible refine Keeps.alloc ?_ _ | with_reducible refine Keeps.drewN ?_ _)

theorem cwithout_any (c : CS) (n : Int) (w : World) :
    Calls Try.prog 25 #[c.val, .int .i64 n] w fun e w' => e = .returned (CS.val (withoutOf c n)) ∧ Keeps w w' := by
  obtain ⟨t, p, m, x, b⟩ := c
  show Calls Try.prog 25 #[.agg #[.int .i64 t, .int .i64 p, .int .i64 m, .int .i64 x, .int .i64 b], .int .i64 n] w _
  go_enter Try.func25, Try.ntmps25
  go_wp2_with fail
  refine wp_region_quiet_tail_lit 6 (by kernel_rfl) (by kernel_rfl) ?_
  simp only [List.take_succ_cons, List.take_zero, List.drop_succ_cons, List.drop_zero]
  repeat (go_big_quiet_step ((go_at_call 69; exact Calls.quiet_of_same (bit_any n _))))
  refine wpQuiet_nil ?_
  rintro _ ⟨nq, rfl⟩
  go_wp2_with fail
  refine bodyPost_ret (by simp [results, Try.results25, go_sem, withoutOf]) rfl ⟨rfl, ?_⟩
  repeat (first | with_reducible exact Keeps.refl _ | with_reducible refine Keeps.setCell ?_ (by simp) _ | with_reducible refine Keeps.alloc ?_ _ | with_reducible refine Keeps.drewN ?_ _)

theorem rcwith_any (c : CS) (n : Int) (w : World) (hc : c.In) :
    Calls Try.prog 30 #[c.val, .int .i64 n] w fun e w' => e = .returned (CS.val (withOf c n)) ∧ Keeps w w' := by
  cases h : isNode n
  · have hz : withOf c n = c := withOf_no hc h
    rw [hz]
    clear hz hc
    obtain ⟨t, p, m, x, b⟩ := c
    show Calls Try.prog 30 #[.agg #[.int .i64 t, .int .i64 p, .int .i64 m, .int .i64 x, .int .i64 b], .int .i64 n] w _
    go_enter Try.func30, Try.ntmps30
    go_wp2_with (go_at_call 70; refine (node_any n _).mono ?_; rintro e w' ⟨rfl, rfl⟩; rw [h])
    refine bodyPost_ret (by simp [results, Try.results30, go_sem]) rfl ⟨rfl, ?_⟩
    repeat (first | with_reducible exact Keeps.refl _ | with_reducible refine Keeps.setCell ?_ (by simp) _ | with_reducible refine Keeps.alloc ?_ _ | with_reducible refine Keeps.drewN ?_ _)
  · obtain ⟨t, p, m, x, b⟩ := c
    clear hc
    rcases isNode_cases h with rfl | rfl | rfl | rfl | rfl | rfl | rfl | rfl
    all_goals
      show Calls Try.prog 30 #[.agg #[.int .i64 t, .int .i64 p, .int .i64 m, .int .i64 x, .int .i64 b], .int .i64 _] w _
      go_enter Try.func30, Try.ntmps30
      go_wp2_with (go_at_call 70; refine (node_any _ _).mono ?_; rintro e w' ⟨rfl, rfl⟩; rw [h])
      refine bodyPost_ret (by simp [results, Try.results30, go_sem, withOf, show bitOf 0 = 1 from rfl, show bitOf 1 = 2 from rfl, show bitOf 2 = 4 from rfl, show bitOf 3 = 8 from rfl, show bitOf 4 = 16 from rfl, show bitOf 5 = 32 from rfl, show bitOf 6 = 64 from rfl, show bitOf 7 = 128 from rfl]) rfl ⟨rfl, ?_⟩
      repeat (first | with_reducible exact Keeps.refl _ | with_reducible refine Keeps.setCell ?_ (by simp) _ | with_reducible refine Keeps.alloc ?_ _ | with_reducible refine Keeps.drewN ?_ _)

theorem rcwithout_any (c : CS) (n : Int) (w : World) (hc : c.In) :
    Calls Try.prog 31 #[c.val, .int .i64 n] w fun e w' => e = .returned (CS.val (withoutOf c n)) ∧ Keeps w w' := by
  cases h : isNode n
  · have hz : withoutOf c n = c := withoutOf_no hc h
    rw [hz]
    clear hz hc
    obtain ⟨t, p, m, x, b⟩ := c
    show Calls Try.prog 31 #[.agg #[.int .i64 t, .int .i64 p, .int .i64 m, .int .i64 x, .int .i64 b], .int .i64 n] w _
    go_enter Try.func31, Try.ntmps31
    go_wp2_with (go_at_call 70; refine (node_any n _).mono ?_; rintro e w' ⟨rfl, rfl⟩; rw [h])
    refine bodyPost_ret (by simp [results, Try.results31, go_sem]) rfl ⟨rfl, ?_⟩
    repeat (first | with_reducible exact Keeps.refl _ | with_reducible refine Keeps.setCell ?_ (by simp) _ | with_reducible refine Keeps.alloc ?_ _ | with_reducible refine Keeps.drewN ?_ _)
  · obtain ⟨t, p, m, x, b⟩ := c
    clear hc
    rcases isNode_cases h with rfl | rfl | rfl | rfl | rfl | rfl | rfl | rfl
    all_goals
      show Calls Try.prog 31 #[.agg #[.int .i64 t, .int .i64 p, .int .i64 m, .int .i64 x, .int .i64 b], .int .i64 _] w _
      go_enter Try.func31, Try.ntmps31
      go_wp2_with (go_at_call 70; refine (node_any _ _).mono ?_; rintro e w' ⟨rfl, rfl⟩; rw [h])
      refine bodyPost_ret (by simp [results, Try.results31, go_sem, withoutOf, show bitOf 0 = 1 from rfl, show bitOf 1 = 2 from rfl, show bitOf 2 = 4 from rfl, show bitOf 3 = 8 from rfl, show bitOf 4 = 16 from rfl, show bitOf 5 = 32 from rfl, show bitOf 6 = 64 from rfl, show bitOf 7 = 128 from rfl]) rfl ⟨rfl, ?_⟩
      repeat (first | with_reducible exact Keeps.refl _ | with_reducible refine Keeps.setCell ?_ (by simp) _ | with_reducible refine Keeps.alloc ?_ _ | with_reducible refine Keeps.drewN ?_ _)

theorem chas_any (c : CS) (n : Int) (w : World) :
    Calls Try.prog 26 #[c.val, .int .i64 n] w fun e w' => e = .returned (.bool (hasOf c n)) ∧ Keeps w w' := by
  obtain ⟨t, p, m, x, b⟩ := c
  show Calls Try.prog 26 #[.agg #[.int .i64 t, .int .i64 p, .int .i64 m, .int .i64 x, .int .i64 b], .int .i64 n] w _
  go_enter Try.func26, Try.ntmps26
  go_wp2_with fail
  refine wp_region_quiet_in (fun w' => ∃ k, w' = World.drewN (w.alloc (.cells #[.int .i64 t, .int .i64 p, .int .i64 m, .int .i64 x, .int .i64 b] 23)) k) (by kernel_rfl) (by kernel_rfl) ⟨1, rfl⟩ ?_
  repeat (go_big_quiet_step ((go_at_call 69; exact Calls.quiet_of_same (bit_any n _))))
  refine wpQuiet_nil ?_
  rintro _ ⟨nq, rfl⟩
  go_wp2_with fail
  go_ret
  exact ⟨rfl, ((Keeps.refl w).alloc _).drewN nq⟩
theorem rchas_any (c : CS) (n : Int) (w : World) :
    Calls Try.prog 32 #[c.val, .int .i64 n] w fun e w' => e = .returned (.bool (hasOf c n)) ∧ Keeps w w' := by
  cases h : isNode n
  · rw [hasOf_no h]
    obtain ⟨t, p, m, x, b⟩ := c
    show Calls Try.prog 32 #[.agg #[.int .i64 t, .int .i64 p, .int .i64 m, .int .i64 x, .int .i64 b], .int .i64 n] w _
    go_enter Try.func32, Try.ntmps32
    go_wp2_with (go_at_call 70; refine (node_any n _).mono ?_; rintro e w' ⟨rfl, rfl⟩; rw [h])
    go_ret
    exact ⟨rfl, (Keeps.refl w).alloc _⟩
  · obtain ⟨t, p, m, x, b⟩ := c
    rcases isNode_cases h with rfl | rfl | rfl | rfl | rfl | rfl | rfl | rfl
    all_goals
      show Calls Try.prog 32 #[.agg #[.int .i64 t, .int .i64 p, .int .i64 m, .int .i64 x, .int .i64 b], .int .i64 _] w _
      go_enter Try.func32, Try.ntmps32
      go_wp2_with (go_at_call 70; refine (node_any _ _).mono ?_; rintro e w' ⟨rfl, rfl⟩; rw [h])
      go_ret
      exact ⟨rfl, (Keeps.refl w).alloc _⟩
end Go.Proofs.Ytdjbalaicfienaa
