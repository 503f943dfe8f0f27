/- Plain facts on the sum. No program in sight. -/
import Derived.Test.YtmjodcackmjllaaPlainNum
namespace Go.Proofs.Ytmjodcackmjllaa

/-- the remainder behind one bit more -/
def crcStep (r : Nat) (b : Bool) : Nat := if (decide (r / 8388608 % 2 = 1)) != b then (r * 2 % 16777216) ^^^ 6122955 else r * 2 % 16777216
def crcOver (r : Nat) (bs : List Bool) : Nat := bs.foldl crcStep r
theorem crcOver_nil (r : Nat) : crcOver r [] = r := rfl
theorem crcOver_snoc (r : Nat) (bs : List Bool) (b : Bool) : crcOver r (bs ++ [b]) = crcStep (crcOver r bs) b := by simp [crcOver]
theorem crcOver_append (r : Nat) (bs cs : List Bool) : crcOver r (bs ++ cs) = crcOver (crcOver r bs) cs := by simp [crcOver]
theorem crcStep_lt (r : Nat) (b : Bool) : crcStep r b < 16777216 := by
  unfold crcStep
  split
  · exact Nat.xor_lt_two_pow (n := 24) (by omega) (by decide)
  · omega
theorem crcOver_lt (bs : List Bool) : ∀ r, r < 16777216 → crcOver r bs < 16777216 := by
  induction bs with
  | nil => intro r h; exact h
  | cons b bs ih => intro r _; exact ih _ (crcStep_lt r b)

/-- the bits of a step -/
theorem crcStep_bit (r : Nat) (b : Bool) (i : Nat) (_hr : r < 16777216) :
    (crcStep r b).testBit i = ((decide (1 ≤ i ∧ i < 24) && r.testBit (i - 1)) ^^ ((r.testBit 23 ^^ b) && (6122955 : Nat).testBit i)) := by
  have h1 : (r * 2 % 16777216).testBit i = (decide (1 ≤ i ∧ i < 24) && r.testBit (i - 1)) := by
    rw [show (16777216 : Nat) = 2 ^ 24 from rfl, Nat.testBit_mod_two_pow, show r * 2 = 2 ^ 1 * r from by omega, Nat.testBit_two_pow_mul]
    by_cases ha : i < 24 <;> by_cases hb : 1 ≤ i <;> simp [ha, hb] <;> omega
  have h2 : decide (r / 8388608 % 2 = 1) = r.testBit 23 := by
    rw [Nat.testBit_eq_decide_div_mod_eq]
  unfold crcStep
  rw [h2]
  cases hx : r.testBit 23 <;> cases b <;> simp [Nat.testBit_xor, h1]
/-- both together -/
theorem crcStep_xor (r s : Nat) (b c : Bool) (hr : r < 16777216) (hs : s < 16777216) : crcStep (r ^^^ s) (b ^^ c) = crcStep r b ^^^ crcStep s c := by
  apply Nat.eq_of_testBit_eq
  intro i
  have h1 := crcStep_bit (r ^^^ s) (b ^^ c) i (Nat.xor_lt_two_pow (n := 24) hr hs)
  have h2 := crcStep_bit r b i hr
  have h3 := crcStep_bit s c i hs
  simp only [Nat.testBit_xor] at h1 ⊢
  rw [h1, h2, h3]
  cases decide (1 ≤ i ∧ i < 24) <;> cases r.testBit (i - 1) <;> cases s.testBit (i - 1) <;> cases r.testBit 23 <;> cases s.testBit 23 <;> cases b <;> cases c <;> cases (6122955 : Nat).testBit i <;> rfl
theorem crcStep_xor0 (r s : Nat) (hr : r < 16777216) (hs : s < 16777216) : crcStep (r ^^^ s) false = crcStep r false ^^^ crcStep s false := crcStep_xor r s false false hr hs
/-- a bit comes in at the top -/
theorem crcStep_top (r : Nat) (b : Bool) (hr : r < 16777216) : crcStep (r ^^^ (b.toNat * 8388608)) false = crcStep r b := by
  have hb : b.toNat * 8388608 < 16777216 := by cases b <;> decide
  have h := crcStep_xor r (b.toNat * 8388608) b b hr hb
  have hz : crcStep (b.toNat * 8388608) b = 0 := by cases b <;> decide
  rw [hz, Nat.xor_zero] at h
  rw [← h]
  cases b <;> rfl
/-- j steps without bits -/
def sh (x : Nat) : Nat → Nat
  | 0 => x
  | j + 1 => crcStep (sh x j) false
theorem sh_lt (x : Nat) (hx : x < 16777216) (j : Nat) : sh x j < 16777216 := by
  cases j with
  | zero => exact hx
  | succ j => exact crcStep_lt _ _
theorem sh_xor (x y : Nat) (hx : x < 16777216) (hy : y < 16777216) (j : Nat) : sh (x ^^^ y) j = sh x j ^^^ sh y j := by
  induction j with
  | zero => rfl
  | succ j ih =>
    simp only [sh]
    rw [ih, crcStep_xor0 _ _ (sh_lt x hx j) (sh_lt y hy j)]
/-- low bits only move up -/
theorem sh_low (x : Nat) (hx : x < 1048576) : sh x 4 = x * 16 := by
  have h (y : Nat) (hy : y < 8388608) : crcStep y false = y * 2 := by
    have : decide (y / 8388608 % 2 = 1) = false := by simp; omega
    unfold crcStep
    rw [this, if_neg (by decide)]
    omega
  simp only [sh]
  rw [h x (by omega), h (x * 2) (by omega), h (x * 2 * 2) (by omega), h (x * 2 * 2 * 2) (by omega)]
  omega
/-- what four bits at the top of a remainder come to -/
def tabAt (i : Nat) : Nat := sh (i * 1048576) 4
theorem tabAt_lt (i : Nat) : tabAt i < 16777216 := crcStep_lt _ _
/-- four bits by four steps of a remainder, or at once -/
theorem crc_four (r : Nat) (hr : r < 16777216) (b0 b1 b2 b3 : Bool) :
    crcOver r [b0, b1, b2, b3] = (r * 16 % 16777216) ^^^ tabAt ((r / 1048576) ^^^ valOf [b0, b1, b2, b3]) := by
  have hv : valOf [b0, b1, b2, b3] < 16 := valOf_lt [b0, b1, b2, b3]
  have hh : r / 1048576 < 16 := by omega
  have hx : (r / 1048576) ^^^ valOf [b0, b1, b2, b3] < 16 := Nat.xor_lt_two_pow (n := 4) hh hv
  -- the right side, as four steps of one number
  have e1 : (r * 16 % 16777216) = sh (r % 1048576) 4 := by rw [sh_low _ (by omega)]; omega
  rw [e1, tabAt, ← sh_xor _ _ (by omega) (by omega)]
  -- that number: the remainder with the bits put over its top
  have e2 : r % 1048576 ^^^ ((r / 1048576) ^^^ valOf [b0, b1, b2, b3]) * 1048576 = r ^^^ valOf [b0, b1, b2, b3] * 1048576 := by
    apply Nat.eq_of_testBit_eq
    intro i
    rw [show (1048576 : Nat) = 2 ^ 20 from rfl]
    simp only [Nat.testBit_xor, Nat.testBit_mod_two_pow, Nat.testBit_mul_two_pow, Nat.testBit_div_two_pow]
    by_cases h : i < 20
    · have h2 : decide (20 ≤ i) = false := by simp; omega
      simp [h, h2]
    · have h' : 20 ≤ i := by omega
      simp [h, h']
  rw [e2]
  have hv' : valOf [b0, b1, b2, b3] * 1048576 < 16777216 := by omega
  have lo : ∀ (b : Bool) (k : Nat), k < 23 → b.toNat * 2 ^ k < 16777216 := by
    intro b k hk
    have : 2 ^ k ≤ 2 ^ 22 := Nat.pow_le_pow_right (by decide) (by omega)
    cases b <;> simp <;> omega
  have ev : valOf [b0, b1, b2, b3] * 1048576 = (b0.toNat * 8388608) ^^^ ((b1.toNat * 4194304) ^^^ ((b2.toNat * 2097152) ^^^ (b3.toNat * 1048576))) := by
    cases b0 <;> cases b1 <;> cases b2 <;> cases b3 <;> decide
  have l0 : b0.toNat * 8388608 < 16777216 := by cases b0 <;> decide
  have l1 : b1.toNat * 4194304 < 16777216 := by cases b1 <;> decide
  have l2 : b2.toNat * 2097152 < 16777216 := by cases b2 <;> decide
  have l3 : b3.toNat * 1048576 < 16777216 := by cases b3 <;> decide
  have x23 : (b2.toNat * 2097152) ^^^ (b3.toNat * 1048576) < 16777216 := Nat.xor_lt_two_pow (n := 24) l2 l3
  have x123 : (b1.toNat * 4194304) ^^^ ((b2.toNat * 2097152) ^^^ (b3.toNat * 1048576)) < 16777216 := Nat.xor_lt_two_pow (n := 24) l1 x23
  have xr0 : r ^^^ (b0.toNat * 8388608) < 16777216 := Nat.xor_lt_two_pow (n := 24) hr l0
  have up : ∀ (b : Bool) (k : Nat), k < 23 → crcStep (b.toNat * 2 ^ k) false = b.toNat * 2 ^ (k + 1) := by
    intro b k hk
    have hp : 2 ^ k ≤ 2 ^ 22 := Nat.pow_le_pow_right (by decide) (by omega)
    have hq : b.toNat * 2 ^ k ≤ 2 ^ 22 := by cases b <;> simp <;> omega
    have : decide (b.toNat * 2 ^ k / 8388608 % 2 = 1) = false := by simp; omega
    unfold crcStep
    rw [this, if_neg (by decide), Nat.pow_succ, ← Nat.mul_assoc]
    omega
  have u1 := up b1 22 (by decide)
  have u2 := up b2 21 (by decide)
  have u2' := up b2 22 (by decide)
  have u3 := up b3 20 (by decide)
  have u3' := up b3 21 (by decide)
  have u3'' := up b3 22 (by decide)
  simp only [Nat.reducePow, Nat.reduceAdd] at u1 u2 u2' u3 u3' u3''
  rw [ev, ← Nat.xor_assoc]
  simp only [sh, crcOver, List.foldl]
  -- the first step
  have s1 : crcStep ((r ^^^ b0.toNat * 8388608) ^^^ ((b1.toNat * 4194304) ^^^ ((b2.toNat * 2097152) ^^^ (b3.toNat * 1048576)))) false =
      crcStep r b0 ^^^ ((b1.toNat * 8388608) ^^^ ((b2.toNat * 4194304) ^^^ (b3.toNat * 2097152))) := by
    rw [crcStep_xor0 _ _ xr0 x123, crcStep_top _ _ hr]
    congr 1
    rw [crcStep_xor0 _ _ l1 x23, u1]
    congr 1
    rw [crcStep_xor0 _ _ l2 l3, u2, u3]
  rw [s1, ← Nat.xor_assoc]
  have m1 : b1.toNat * 8388608 < 16777216 := by cases b1 <;> decide
  have m2 : b2.toNat * 4194304 < 16777216 := by cases b2 <;> decide
  have m3 : b3.toNat * 2097152 < 16777216 := by cases b3 <;> decide
  have s2 : crcStep ((crcStep r b0 ^^^ b1.toNat * 8388608) ^^^ ((b2.toNat * 4194304) ^^^ (b3.toNat * 2097152))) false =
      crcStep (crcStep r b0) b1 ^^^ ((b2.toNat * 8388608) ^^^ (b3.toNat * 4194304)) := by
    rw [crcStep_xor0 _ _ (Nat.xor_lt_two_pow (n := 24) (crcStep_lt r b0) m1) (Nat.xor_lt_two_pow (n := 24) m2 m3), crcStep_top _ _ (crcStep_lt r b0)]
    congr 1
    rw [crcStep_xor0 _ _ m2 m3, u2', u3']
  rw [s2, ← Nat.xor_assoc]
  have n2 : b2.toNat * 8388608 < 16777216 := by cases b2 <;> decide
  have n3 : b3.toNat * 4194304 < 16777216 := by cases b3 <;> decide
  have s3 : crcStep ((crcStep (crcStep r b0) b1 ^^^ b2.toNat * 8388608) ^^^ (b3.toNat * 4194304)) false =
      crcStep (crcStep (crcStep r b0) b1) b2 ^^^ (b3.toNat * 8388608) := by
    rw [crcStep_xor0 _ _ (Nat.xor_lt_two_pow (n := 24) (crcStep_lt _ b1) n2) n3, crcStep_top _ _ (crcStep_lt _ b1), u3'']
  rw [s3, crcStep_top _ _ (crcStep_lt _ b2)]
end Go.Proofs.Ytmjodcackmjllaa
