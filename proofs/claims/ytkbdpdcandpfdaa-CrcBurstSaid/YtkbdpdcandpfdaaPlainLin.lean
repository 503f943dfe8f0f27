/- Plain facts on the sum: it is linear; what is told. No program in sight. -/
import Derived.Test.YtkbdpdcandpfdaaPlainCrc2
import Derived.Test.YtkbdpdcandpfdaaPlainInto
namespace Go.Proofs.Ytkbdpdcandpfdaa
set_option linter.unusedVariables false
set_option linter.unusedSimpArgs false

def xorL (bs cs : List Bool) : List Bool := List.zipWith (fun b c => b ^^ c) bs cs
theorem xorL_len (bs cs : List Bool) (h : bs.length = cs.length) : (xorL bs cs).length = bs.length := by simp [xorL, h]
theorem xorL_getD (bs cs : List Bool) (h : bs.length = cs.length) (i : Nat) : (xorL bs cs).getD i false = (bs.getD i false ^^ cs.getD i false) := by
  unfold xorL
  simp only [List.getD_eq_getElem?_getD, List.getElem?_zipWith]
  by_cases hi : i < bs.length
  · have hi' : i < cs.length := by omega
    rw [List.getElem?_eq_getElem hi, List.getElem?_eq_getElem hi']
    rfl
  · rw [List.getElem?_eq_none (by omega), List.getElem?_eq_none (by omega)]
    rfl
theorem xor_lt24 {r s : Nat} (hr : r < 16777216) (hs : s < 16777216) : r ^^^ s < 16777216 := Nat.xor_lt_two_pow (n := 24) hr hs
theorem crcOver_xorL : ∀ (bs cs : List Bool) (r s : Nat), bs.length = cs.length → r < 16777216 → s < 16777216 → crcOver (r ^^^ s) (xorL bs cs) = crcOver r bs ^^^ crcOver s cs
  | [], [], r, s, _, _, _ => rfl
  | b :: bs, c :: cs, r, s, hl, hr, hs => by
    have ih := crcOver_xorL bs cs (crcStep r b) (crcStep s c) (by simpa using hl) (crcStep_lt _ _) (crcStep_lt _ _)
    rw [← crcStep_xor r s b c hr hs] at ih
    exact ih
theorem step0_zero (r : Nat) (hr : r < 16777216) (h : crcStep r false = 0) : r = 0 := by
  unfold crcStep at h
  by_cases ht : r / 8388608 % 2 = 1
  · rw [if_pos (by simp [ht])] at h
    exfalso
    have : ((r * 2 % 16777216) ^^^ 6122955).testBit 0 = true := by
      rw [Nat.testBit_xor]
      have h1 : (r * 2 % 16777216).testBit 0 = false := by rw [Nat.testBit_zero]; simp; try omega
      rw [h1]; decide
    rw [h] at this
    simp at this
  · rw [if_neg (by simp [ht])] at h
    omega
theorem over_zeros (k : Nat) : ∀ (r : Nat), r < 16777216 → crcOver r (List.replicate k false) = 0 → r = 0 := by
  induction k with
  | zero => intro r _ h; exact h
  | succ k ih =>
    intro r hr h
    rw [List.replicate_succ] at h
    exact step0_zero r hr (ih _ (crcStep_lt r false) h)
theorem over_zeros0 (k : Nat) : crcOver 0 (List.replicate k false) = 0 := by
  induction k with
  | zero => rfl
  | succ k ih => rw [List.replicate_succ]; exact ih
theorem crcOver_self_to (r : Nat) (hr : r < 16777216) : ∀ k, k ≤ 24 → crcOver r ((numBits r 24).take k) = r * 2 ^ k % 16777216 := by
  intro k
  induction k with
  | zero => intro _; simp [crcOver]; omega
  | succ k ih =>
    intro hk
    have hl : k < (numBits r 24).length := by rw [numBits_len]; omega
    rw [List.take_succ_eq_append_getElem hl, crcOver_snoc, ih (by omega)]
    have hb : (numBits r 24)[k] = r.testBit (24 - 1 - k) := by
      have := numBits_getD r 24 k (by omega)
      simpa [List.getD_eq_getElem?_getD, hl] using this
    rw [hb]
    have ht : decide (r * 2 ^ k % 16777216 / 8388608 % 2 = 1) = r.testBit (24 - 1 - k) := by
      rw [show decide (r * 2 ^ k % 16777216 / 8388608 % 2 = 1) = (r * 2 ^ k % 16777216).testBit 23 by rw [Nat.testBit_eq_decide_div_mod_eq]]
      rw [show (16777216 : Nat) = 2 ^ 24 from rfl, Nat.testBit_mod_two_pow, Nat.testBit_mul_two_pow]
      simp [show k ≤ 23 by omega]
    unfold crcStep
    rw [ht, if_neg (by simp), Nat.pow_succ, ← Nat.mul_assoc]
    omega
theorem crcOver_self (r : Nat) (hr : r < 16777216) : crcOver r (numBits r 24) = 0 := by
  have := crcOver_self_to r hr 24 (by omega)
  rw [List.take_of_length_le (by rw [numBits_len]; omega)] at this
  rw [this]
  omega
theorem xorL_zero : ∀ (bs : List Bool), xorL bs (List.replicate bs.length false) = bs
  | [] => rfl
  | b :: bs => by
    show (b ^^ false) :: xorL bs (List.replicate bs.length false) = b :: bs
    rw [xorL_zero bs]; simp
/-- from another remainder -/
theorem crcOver_from (r d : Nat) (bs : List Bool) (hr : r < 16777216) (hd : d < 16777216) : crcOver (r ^^^ d) bs = crcOver r bs ^^^ crcOver d (List.replicate bs.length false) := by
  have := crcOver_xorL bs (List.replicate bs.length false) r d (by simp) hr hd
  rwa [xorL_zero] at this
theorem crcOver_num (r v : Nat) (hr : r < 16777216) (hv : v < 16777216) (h : crcOver r (numBits v 24) = 0) : r = v := by
  have h1 := crcOver_from v (v ^^^ r) (numBits v 24) hv (xor_lt24 hv hr)
  rw [← Nat.xor_assoc, Nat.xor_self, Nat.zero_xor, h, crcOver_self v hv, Nat.zero_xor, numBits_len] at h1
  have h2 := over_zeros 24 _ (xor_lt24 hv hr) h1.symm
  apply Nat.eq_of_testBit_eq
  intro i
  have := congrArg (fun n => n.testBit i) h2
  simp only [Nat.testBit_xor, Nat.zero_testBit] at this
  revert this
  cases v.testBit i <;> cases r.testBit i <;> simp
theorem crcOver_lead (k : Nat) (bs : List Bool) : crcOver 0 (List.replicate k false ++ bs) = crcOver 0 bs := by
  rw [crcOver_append, over_zeros0]
/-- up to 24 bits, one of them 1, are told -/
theorem crcOver_few (ps : List Bool) (hl : ps.length ≤ 24) (h : crcOver 0 ps = 0) : ps = List.replicate ps.length false := by
  have h1 := crcOver_lead (24 - ps.length) ps
  rw [h] at h1
  have hlen : (List.replicate (24 - ps.length) false ++ ps).length = 24 := by simp; omega
  have h2 : numBits (valOf (List.replicate (24 - ps.length) false ++ ps)) 24 = List.replicate (24 - ps.length) false ++ ps := by
    have := numBits_valOf (List.replicate (24 - ps.length) false ++ ps)
    rwa [hlen] at this
  have hv : valOf (List.replicate (24 - ps.length) false ++ ps) < 16777216 := by
    have := valOf_lt (List.replicate (24 - ps.length) false ++ ps)
    rw [hlen] at this
    exact this
  rw [← h2] at h1
  have h3 := crcOver_num 0 _ (by decide) hv h1
  rw [← h3] at h2
  have h4 : numBits 0 24 = List.replicate 24 false := by decide
  rw [h4] at h2
  have h5 : ps = (List.replicate (24 - ps.length) false ++ ps).drop (24 - ps.length) := by
    rw [List.drop_append_of_le_length (by simp), List.drop_of_length_le (by simp)]; simp
  rw [← h2] at h5
  conv => lhs; rw [h5]
  rw [List.drop_replicate]
  congr 1
  omega
/-- up to 24 bits turned, one behind the other, are told -/
theorem crcOver_burst (k j : Nat) (ps : List Bool) (hl : ps.length ≤ 24) (h : crcOver 0 (List.replicate k false ++ (ps ++ List.replicate j false)) = 0) : ps = List.replicate ps.length false := by
  rw [crcOver_lead, crcOver_append] at h
  exact crcOver_few ps hl (over_zeros j _ (crcOver_lt _ _ (by decide)) h)
end Go.Proofs.Ytkbdpdcandpfdaa
