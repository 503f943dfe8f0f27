/- The walks of layer 4, 1: fields, widths, Check. -/
import Derived.Test.YtmjodcackmjllaaRows
import Derived.Test.YtmjodcackmjllaaBase2
import Derived.Test.YtmjodcackmjllaaLater
import Derived.Deep.QuietTactic
import Derived.BigQuiet
namespace Go.Proofs.Ytmjodcackmjllaa
open Go.RowKit
set_option linter.unusedVariables false
set_option linter.unusedSimpArgs false

/-- a state -/
structure CS where
  t : Int
  p : Int
  m : Int
  x : Int
  b : Int
abbrev CS.val (c : CS) : Value := .agg #[.int .i64 c.t, .int .i64 c.p, .int .i64 c.m, .int .i64 c.x, .int .i64 c.b]
abbrev CS.arr (c : CS) : Array Value := #[.int .i64 c.t, .int .i64 c.p, .int .i64 c.m, .int .i64 c.x, .int .i64 c.b]
def CS.zero : CS := ⟨0, 0, 0, 0, 0⟩
/-- its numbers are of 64 bits -/
structure CS.In (c : CS) : Prop where
  t1 : -9223372036854775808 ≤ c.t
  t2 : c.t ≤ 9223372036854775807
  p1 : -9223372036854775808 ≤ c.p
  p2 : c.p ≤ 9223372036854775807
  m1 : -9223372036854775808 ≤ c.m
  m2 : c.m ≤ 9223372036854775807
  x1 : -9223372036854775808 ≤ c.x
  x2 : c.x ≤ 9223372036854775807
  b1 : -9223372036854775808 ≤ c.b
  b2 : c.b ≤ 9223372036854775807
def csN (n : Int) : Bool := decide (4 ≤ n) && decide (n ≤ 8)
def csOk (c : CS) (n : Int) : Bool := decide (0 ≤ c.t) && (decide (c.t ≤ 255) && (decide (0 ≤ c.p) && (decide (c.p < n) && (decide (0 ≤ c.m) && (decide (c.m < 4) && (decide (0 ≤ c.x) && (decide (c.x ≤ 4) && (decide (0 ≤ c.b) && decide (c.b < 2 ^ n.toNat)))))))))
def csErr (c : CS) (n : Int) : Int := if csN n then (if csOk c n then 0 else 40) else 2
theorem csOk_iff (c : CS) (n : Int) : csOk c n = true ↔ (0 ≤ c.t ∧ c.t ≤ 255 ∧ 0 ≤ c.p ∧ c.p < n ∧ 0 ≤ c.m ∧ c.m < 4 ∧ 0 ≤ c.x ∧ c.x ≤ 4 ∧ 0 ≤ c.b ∧ c.b < 2 ^ n.toNat) := by
  simp only [csOk, Bool.and_eq_true, decide_eq_true_eq]
theorem csN_iff (n : Int) : csN n = true ↔ (4 ≤ n ∧ n ≤ 8) := by simp only [csN, Bool.and_eq_true, decide_eq_true_eq]

/-- the fields, and what each is at most -/
def csPair (c : CS) (n N : Int) : Nat → Int × Int
  | 0 => (c.t, 255)
  | 1 => (c.p, n - 1)
  | 2 => (c.m, 3)
  | 3 => (c.x, 4)
  | _ => (c.b, N)
def csIn (q : Int × Int) : Bool := decide (0 ≤ q.1) && decide (q.1 ≤ q.2)
theorem fields_any (c : CS) (w : World) :
    Calls Try.prog 104 #[c.val] w fun e w' => e = .returned c.val ∧ Keeps w w' := by
  obtain ⟨t, p, m, x, b⟩ := c
  show Calls Try.prog 104 #[.agg #[.int .i64 t, .int .i64 p, .int .i64 m, .int .i64 x, .int .i64 b]] w _
  go_enter Try.func104, Try.ntmps104
  go_wp2
  exact bodyPost_ret (by simp [results, Try.results104, go_sem]) rfl ⟨rfl, ((Keeps.refl w).alloc _).alloc _⟩
set_option maxHeartbeats 1000000 in
set_option maxRecDepth 100000 in
theorem ccheck_n (c : CS) (n : Int) (w : World) (hn : csN n = false) :
    Calls Try.prog 98 #[c.val, .int .i64 n] w fun e w' => e = .returned (.int .i64 2) ∧ Keeps w w' := by
  obtain ⟨t, p, m, x, b⟩ := c
  show Calls Try.prog 98 #[.agg #[.int .i64 t, .int .i64 p, .int .i64 m, .int .i64 x, .int .i64 b], .int .i64 n] w _
  simp only [csN, Bool.and_eq_false_iff, decide_eq_false_iff_not] at hn
  by_cases h : n < 4
  · have hd : decide (n < 4) = true := by simpa using h
    clear hn
    go_enter Try.func98, Try.ntmps98
    go_wp2
    go_ret
    exact ⟨rfl, (Keeps.refl w).alloc _⟩
  · have hd : decide (n < 4) = false := by simpa using h
    have hd2 : decide (8 < n) = true := by simp; omega
    clear hn
    go_enter Try.func98, Try.ntmps98
    go_wp2
    go_ret
    exact ⟨rfl, (Keeps.refl w).alloc _⟩

set_option maxHeartbeats 4000000 in
set_option maxRecDepth 100000 in
theorem ccheck_at (c : CS) (n : Int) (w : World) (hn : n = 4 ∨ n = 5 ∨ n = 6 ∨ n = 7 ∨ n = 8) :
    Calls Try.prog 98 #[c.val, .int .i64 n] w fun e w' => e = .returned (.int .i64 (cond (csOk c n) 0 40)) ∧ Keeps w w' := by
  obtain ⟨t, p, m, x, b⟩ := c
  show Calls Try.prog 98 #[.agg #[.int .i64 t, .int .i64 p, .int .i64 m, .int .i64 x, .int .i64 b], .int .i64 n] w _
  obtain ⟨N, hN⟩ : ∃ N : Int, N = 2 ^ n.toNat - 1 := ⟨_, rfl⟩
  have hb : csOk ⟨t, p, m, x, b⟩ n = (decide (0 ≤ t) && (decide (t ≤ 255) && (decide (0 ≤ p) && (decide (p ≤ n - 1) && (decide (0 ≤ m) && (decide (m ≤ 3) && (decide (0 ≤ x) && (decide (x ≤ 4) && (decide (0 ≤ b) && decide (b ≤ N)))))))))) := by
    rw [Bool.eq_iff_iff, csOk_iff]
    simp only [Bool.and_eq_true, decide_eq_true_eq]
    constructor <;> (rintro ⟨h1, h2, h3, h4, h5, h6, h7, h8, h9, h10⟩; exact ⟨h1, h2, h3, by omega, h5, by omega, h7, h8, h9, by omega⟩)
  have hb2 : csOk ⟨t, p, m, x, b⟩ n = (csIn (t, 255) && (csIn (p, n - 1) && (csIn (m, 3) && (csIn (x, 4) && csIn (b, N))))) := by
    rw [hb]; simp only [csIn, Bool.and_assoc]
  have HYES : Hid ((∀ j, j < 5 → csIn (csPair ⟨t, p, m, x, b⟩ n N j) = true) → csOk ⟨t, p, m, x, b⟩ n = true) := by
    intro h
    rw [hb2, show csIn (t, 255) = true from h 0 (by decide), show csIn (p, n - 1) = true from h 1 (by decide), show csIn (m, 3) = true from h 2 (by decide), show csIn (x, 4) = true from h 3 (by decide), show csIn (b, N) = true from h 4 (by decide)]
    rfl
  have HNO : Hid (∀ j, j < 5 → csIn (csPair ⟨t, p, m, x, b⟩ n N j) = false → csOk ⟨t, p, m, x, b⟩ n = false) := by
    intro j hj h
    rw [hb2]
    match j, hj with
    | 0, _ => rw [show csIn (t, 255) = false from h]; rfl
    | 1, _ => rw [show csIn (p, n - 1) = false from h]; simp
    | 2, _ => rw [show csIn (m, 3) = false from h]; simp
    | 3, _ => rw [show csIn (x, 4) = false from h]; simp
    | 4, _ => rw [show csIn (b, N) = false from h]; simp
  clear hb2
  have HE : Hid (wrap64 (wrap64 (2 ^ n.toNat) - 1) = N) := by
    subst hN
    show wrap64 (wrap64 (2 ^ n.toNat) - 1) = 2 ^ n.toNat - 1
    rcases hn with rfl | rfl | rfl | rfl | rfl <;> decide +kernel
  have hn1 : 4 ≤ n := by omega
  have hn2 : n ≤ 8 := by omega
  have hN1 : 0 ≤ N := by subst hN; rcases hn with rfl | rfl | rfl | rfl | rfl <;> decide
  have hN2 : N ≤ 255 := by subst hN; rcases hn with rfl | rfl | rfl | rfl | rfl <;> decide
  have hd1 : decide (n < 4) = false := by simp; omega
  have hd2 : decide (8 < n) = false := by simp; omega
  clear hn hN hb
  go_enter Try.func98, Try.ntmps98
  go_wp2_with fail
  rw [HE.out]
  with_reducible refine (fields_any ⟨t, p, m, x, b⟩ _).mono ?_
  rintro e w1 ⟨rfl, hk1⟩
  have hbx := Box.new (w.alloc (.cells #[.int .i64 t, .int .i64 p, .int .i64 m, .int .i64 x, .int .i64 b] 27)) 124 #[.int .i64 255, .int .i64 (n - 1), .int .i64 3, .int .i64 4, .int .i64 N]
  rw [World.size_alloc] at hbx
  have HB := Lib.hid (hbx.keeps hk1)
  have HK := Lib.hid ((((Keeps.refl w).alloc _).alloc _).trans hk1)
  have hm0 := HB.out.cell 0 _ rfl
  have hm1 := HB.out.cell 1 _ rfl
  have hm2 := HB.out.cell 2 _ rfl
  have hm3 := HB.out.cell 3 _ rfl
  have hm4 := HB.out.cell 4 _ rfl
  clear hk1 hbx hd1 hd2
  have i0 : ∀ w, (Instr.index 124 (.agg #[.int .i64 t, .int .i64 p, .int .i64 m, .int .i64 x, .int .i64 b]) (.int .i64 0)).run Try.prog w = .ok (.int .i64 t) w := fun _ => by kernel_rfl
  have i1 : ∀ w, (Instr.index 124 (.agg #[.int .i64 t, .int .i64 p, .int .i64 m, .int .i64 x, .int .i64 b]) (.int .i64 1)).run Try.prog w = .ok (.int .i64 p) w := fun _ => by kernel_rfl
  have i2 : ∀ w, (Instr.index 124 (.agg #[.int .i64 t, .int .i64 p, .int .i64 m, .int .i64 x, .int .i64 b]) (.int .i64 2)).run Try.prog w = .ok (.int .i64 m) w := fun _ => by kernel_rfl
  have i3 : ∀ w, (Instr.index 124 (.agg #[.int .i64 t, .int .i64 p, .int .i64 m, .int .i64 x, .int .i64 b]) (.int .i64 3)).run Try.prog w = .ok (.int .i64 x) w := fun _ => by kernel_rfl
  have i4 : ∀ w, (Instr.index 124 (.agg #[.int .i64 t, .int .i64 p, .int .i64 m, .int .i64 x, .int .i64 b]) (.int .i64 4)).run Try.prog w = .ok (.int .i64 b) w := fun _ => by kernel_rfl
  go_wp2_with fail
  go_loop [22] (fun i => ∃ k : Nat, k ≤ 5 ∧ i = .int .i64 k ∧ Hid (∀ j, j < k → csIn (csPair ⟨t, p, m, x, b⟩ n N j) = true)) (fun i => 5 - (intOf i).toNat)
  case atStart => exact ⟨0, by omega, rfl, fun j hj => by omega⟩
  case round =>
    obtain ⟨k, hk, rfl, HO⟩ := hrel
    have hk' : k = 0 ∨ k = 1 ∨ k = 2 ∨ k = 3 ∨ k = 4 ∨ k = 5 := by omega
    clear hk
    rcases hk' with rfl | rfl | rfl | rfl | rfl | rfl
    · by_cases hneg : t < 0
      · have hd1 : decide (t < 0) = true := by simpa using hneg
        have HR := Lib.hid (HNO.out 0 (by decide) (show csIn (t, 255) = false by simp only [csIn, Bool.and_eq_false_iff, decide_eq_false_iff_not]; omega))
        go_wp2_with fail
        go_ret
        exact ⟨by rw [HR.out]; rfl, HK.out⟩
      have hd1 : decide (t < 0) = false := by simpa using hneg
      by_cases hbig : 255 < t
      · have hd2 : decide (255 < t) = true := by simpa using hbig
        have HR := Lib.hid (HNO.out 0 (by decide) (show csIn (t, 255) = false by simp only [csIn, Bool.and_eq_false_iff, decide_eq_false_iff_not]; omega))
        go_wp2_with fail
        go_ret
        exact ⟨by rw [HR.out]; rfl, HK.out⟩
      have hd2 : decide (255 < t) = false := by simpa using hbig
      have HO2 : Hid (∀ j, j < 1 → csIn (csPair ⟨t, p, m, x, b⟩ n N j) = true) := by
        intro j hj
        by_cases hjk : j = 0
        · subst hjk
          show csIn (t, 255) = true
          simp only [csIn, Bool.and_eq_true, decide_eq_true_eq]; omega
        · exact HO.out j (by omega)
      go_wp2_with fail
      go_round
      case rel => exact ⟨1, by omega, by go_num, HO2⟩
      case measure => simp [intOf]
    · by_cases hneg : p < 0
      · have hd1 : decide (p < 0) = true := by simpa using hneg
        have HR := Lib.hid (HNO.out 1 (by decide) (show csIn (p, n - 1) = false by simp only [csIn, Bool.and_eq_false_iff, decide_eq_false_iff_not]; omega))
        go_wp2_with fail
        go_ret
        exact ⟨by rw [HR.out]; rfl, HK.out⟩
      have hd1 : decide (p < 0) = false := by simpa using hneg
      by_cases hbig : n - 1 < p
      · have hd2 : decide (n - 1 < p) = true := by simpa using hbig
        have HR := Lib.hid (HNO.out 1 (by decide) (show csIn (p, n - 1) = false by simp only [csIn, Bool.and_eq_false_iff, decide_eq_false_iff_not]; omega))
        go_wp2_with fail
        go_ret
        exact ⟨by rw [HR.out]; rfl, HK.out⟩
      have hd2 : decide (n - 1 < p) = false := by simpa using hbig
      have HO2 : Hid (∀ j, j < 2 → csIn (csPair ⟨t, p, m, x, b⟩ n N j) = true) := by
        intro j hj
        by_cases hjk : j = 1
        · subst hjk
          show csIn (p, n - 1) = true
          simp only [csIn, Bool.and_eq_true, decide_eq_true_eq]; omega
        · exact HO.out j (by omega)
      go_wp2_with fail
      go_round
      case rel => exact ⟨2, by omega, by go_num, HO2⟩
      case measure => simp [intOf]
    · by_cases hneg : m < 0
      · have hd1 : decide (m < 0) = true := by simpa using hneg
        have HR := Lib.hid (HNO.out 2 (by decide) (show csIn (m, 3) = false by simp only [csIn, Bool.and_eq_false_iff, decide_eq_false_iff_not]; omega))
        go_wp2_with fail
        go_ret
        exact ⟨by rw [HR.out]; rfl, HK.out⟩
      have hd1 : decide (m < 0) = false := by simpa using hneg
      by_cases hbig : 3 < m
      · have hd2 : decide (3 < m) = true := by simpa using hbig
        have HR := Lib.hid (HNO.out 2 (by decide) (show csIn (m, 3) = false by simp only [csIn, Bool.and_eq_false_iff, decide_eq_false_iff_not]; omega))
        go_wp2_with fail
        go_ret
        exact ⟨by rw [HR.out]; rfl, HK.out⟩
      have hd2 : decide (3 < m) = false := by simpa using hbig
      have HO2 : Hid (∀ j, j < 3 → csIn (csPair ⟨t, p, m, x, b⟩ n N j) = true) := by
        intro j hj
        by_cases hjk : j = 2
        · subst hjk
          show csIn (m, 3) = true
          simp only [csIn, Bool.and_eq_true, decide_eq_true_eq]; omega
        · exact HO.out j (by omega)
      go_wp2_with fail
      go_round
      case rel => exact ⟨3, by omega, by go_num, HO2⟩
      case measure => simp [intOf]
    · by_cases hneg : x < 0
      · have hd1 : decide (x < 0) = true := by simpa using hneg
        have HR := Lib.hid (HNO.out 3 (by decide) (show csIn (x, 4) = false by simp only [csIn, Bool.and_eq_false_iff, decide_eq_false_iff_not]; omega))
        go_wp2_with fail
        go_ret
        exact ⟨by rw [HR.out]; rfl, HK.out⟩
      have hd1 : decide (x < 0) = false := by simpa using hneg
      by_cases hbig : 4 < x
      · have hd2 : decide (4 < x) = true := by simpa using hbig
        have HR := Lib.hid (HNO.out 3 (by decide) (show csIn (x, 4) = false by simp only [csIn, Bool.and_eq_false_iff, decide_eq_false_iff_not]; omega))
        go_wp2_with fail
        go_ret
        exact ⟨by rw [HR.out]; rfl, HK.out⟩
      have hd2 : decide (4 < x) = false := by simpa using hbig
      have HO2 : Hid (∀ j, j < 4 → csIn (csPair ⟨t, p, m, x, b⟩ n N j) = true) := by
        intro j hj
        by_cases hjk : j = 3
        · subst hjk
          show csIn (x, 4) = true
          simp only [csIn, Bool.and_eq_true, decide_eq_true_eq]; omega
        · exact HO.out j (by omega)
      go_wp2_with fail
      go_round
      case rel => exact ⟨4, by omega, by go_num, HO2⟩
      case measure => simp [intOf]
    · by_cases hneg : b < 0
      · have hd1 : decide (b < 0) = true := by simpa using hneg
        have HR := Lib.hid (HNO.out 4 (by decide) (show csIn (b, N) = false by simp only [csIn, Bool.and_eq_false_iff, decide_eq_false_iff_not]; omega))
        go_wp2_with fail
        go_ret
        exact ⟨by rw [HR.out]; rfl, HK.out⟩
      have hd1 : decide (b < 0) = false := by simpa using hneg
      by_cases hbig : N < b
      · have hd2 : decide (N < b) = true := by simpa using hbig
        have HR := Lib.hid (HNO.out 4 (by decide) (show csIn (b, N) = false by simp only [csIn, Bool.and_eq_false_iff, decide_eq_false_iff_not]; omega))
        go_wp2_with fail
        go_ret
        exact ⟨by rw [HR.out]; rfl, HK.out⟩
      have hd2 : decide (N < b) = false := by simpa using hbig
      have HO2 : Hid (∀ j, j < 5 → csIn (csPair ⟨t, p, m, x, b⟩ n N j) = true) := by
        intro j hj
        by_cases hjk : j = 4
        · subst hjk
          show csIn (b, N) = true
          simp only [csIn, Bool.and_eq_true, decide_eq_true_eq]; omega
        · exact HO.out j (by omega)
      go_wp2_with fail
      go_round
      case rel => exact ⟨5, by omega, by go_num, HO2⟩
      case measure => simp [intOf]
    · have HR := Lib.hid (HYES.out HO.out)
      go_wp2_with fail
      go_ret
      exact ⟨by rw [HR.out]; rfl, HK.out⟩
theorem ccheck_any (c : CS) (n : Int) (w : World) :
    Calls Try.prog 98 #[c.val, .int .i64 n] w fun e w' => e = .returned (.int .i64 (csErr c n)) ∧ Keeps w w' := by
  unfold csErr
  cases hn : csN n
  · exact ccheck_n c n w hn
  · have h := ccheck_at c n w (by rw [csN_iff] at hn; omega)
    rw [if_pos rfl]
    cases hc : csOk c n <;> (rw [hc] at h; exact h)
end Go.Proofs.Ytmjodcackmjllaa
