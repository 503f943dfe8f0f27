/- Plain: a round of steps; a member more and less. -/
import Derived.Test.YtdjbalaicfienaaC11
import Derived.Test.YtdjbalaicfienaaC12
import Derived.Test.YtdjbalaicfienaaC13
namespace Go.Proofs.Ytdjbalaicfienaa
set_option linter.unusedVariables false

def modeOf (c : CS) : Int := if c.x = 0 then c.m else c.x - 1
/-- the state k slots on, k at most n -/
def stepTo (c : CS) (n k : Int) : CS := if c.p + k < n then ⟨c.t, c.p + k, c.m, c.x, c.b⟩ else ⟨(c.t + 1) % 256, c.p + k - n, modeOf c, 0, c.b⟩
theorem stepTo_zero {c : CS} {n : Int} (h : csOk c n = true) : stepTo c n 0 = c := by
  rw [csOk_iff] at h
  unfold stepTo
  rw [if_pos (by omega), Int.add_zero]
theorem stepTo_all {c : CS} {n : Int} (h : csOk c n = true) : stepTo c n n = ⟨(c.t + 1) % 256, c.p, modeOf c, 0, c.b⟩ := by
  rw [csOk_iff] at h
  unfold stepTo
  rw [if_neg (by omega), show c.p + n - n = c.p from by omega]
theorem stepTo_ok {c : CS} {n k : Int} (h : csOk c n = true) (h0 : 0 ≤ k) (h1 : k ≤ n) : csOk (stepTo c n k) n = true := by
  rw [csOk_iff] at h ⊢
  unfold stepTo modeOf
  obtain ⟨a1, a2, a3, a4, a5, a6, a7, a8, a9, a10⟩ := h
  have hm : 0 ≤ (if c.x = 0 then c.m else c.x - 1) ∧ (if c.x = 0 then c.m else c.x - 1) < 4 := by split <;> omega
  split
  · exact ⟨a1, a2, by simp only; omega, by simp only; omega, a5, a6, a7, a8, a9, a10⟩
  · exact ⟨by simp only; omega, by simp only; omega, by simp only; omega, by simp only; omega, hm.1, hm.2, by simp, by simp, a9, a10⟩
theorem stepTo_step {c : CS} {n k : Int} (h : csOk c n = true) (hn : csN n = true) (h0 : 0 ≤ k) (h1 : k < n) : csStep (stepTo c n k) n = stepTo c n (k + 1) := by
  rw [csOk_iff] at h
  rw [csN_iff] at hn
  obtain ⟨a1, a2, a3, a4, -⟩ := h
  by_cases h2 : c.p + k < n
  · have e : stepTo c n k = ⟨c.t, c.p + k, c.m, c.x, c.b⟩ := by unfold stepTo; rw [if_pos h2]
    rw [e]
    by_cases h3 : c.p + k + 1 = n
    · have e2 : stepTo c n (k + 1) = ⟨(c.t + 1) % 256, c.p + (k + 1) - n, modeOf c, 0, c.b⟩ := by unfold stepTo; rw [if_neg (by omega)]
      rw [e2, show c.p + (k + 1) - n = 0 from by omega]
      unfold csStep modeOf
      rw [if_pos h3]
    · have e2 : stepTo c n (k + 1) = ⟨c.t, c.p + (k + 1), c.m, c.x, c.b⟩ := by unfold stepTo; rw [if_pos (by omega)]
      rw [e2, show c.p + (k + 1) = c.p + k + 1 from by omega]
      unfold csStep
      rw [if_neg h3]
  · have e : stepTo c n k = ⟨(c.t + 1) % 256, c.p + k - n, modeOf c, 0, c.b⟩ := by unfold stepTo; rw [if_neg h2]
    have e2 : stepTo c n (k + 1) = ⟨(c.t + 1) % 256, c.p + (k + 1) - n, modeOf c, 0, c.b⟩ := by unfold stepTo; rw [if_neg (by omega)]
    rw [e, e2, show c.p + (k + 1) - n = c.p + k - n + 1 from by omega]
    unfold csStep
    rw [if_neg (by simp only; omega)]
theorem slots_step {c : CS} {n : Int} (h : csOk c n = true) (hn : csN n = true) : slotsOf c (csStep c n) n = 1 := by
  rw [csOk_iff] at h
  rw [csN_iff] at hn
  obtain ⟨a1, a2, a3, a4, -⟩ := h
  obtain ⟨t, p, m, x, b⟩ := c
  simp only at a1 a2 a3 a4
  have h5 : n = 4 ∨ n = 5 ∨ n = 6 ∨ n = 7 ∨ n = 8 := by omega
  by_cases hp : p + 1 = n
  · have e : slotsOf ⟨t, p, m, x, b⟩ (csStep ⟨t, p, m, x, b⟩ n) n = ((t + 1) % 256 * n + 0 - t * n - p + 256 * n) % (256 * n) := by
      unfold slotsOf csStep; rw [if_pos hp]
    rw [e]
    rcases h5 with rfl | rfl | rfl | rfl | rfl <;> omega
  · have e : slotsOf ⟨t, p, m, x, b⟩ (csStep ⟨t, p, m, x, b⟩ n) n = (t * n + (p + 1) - t * n - p + 256 * n) % (256 * n) := by
      unfold slotsOf csStep; rw [if_neg hp]
    rw [e]
    rcases h5 with rfl | rfl | rfl | rfl | rfl <;> omega
/-- the round's step: what the law asks of it -/
theorem stepRes_yes {c : CS} {n : Int} (hn : csN n = true) (hc : csOk c n = true) : stepRes c n = (csStep c n, 0) := by
  unfold stepRes; rw [if_pos (csErr_yes hn hc)]
theorem slotsRes_yes {a b : CS} {n : Int} (hn : csN n = true) (ha : csOk a n = true) (hb : csOk b n = true) : slotsRes a b n = (slotsOf a b n, 0) := by
  unfold slotsRes; rw [if_pos (csErr_yes hn ha), if_pos (csErr_yes hn hb)]
theorem mem_all : ∀ n : Fin 9, 4 ≤ n.val → ∀ k : Fin 8, k.val < n.val → ∀ b : Fin 256, b.val < 2 ^ n.val →
    (0 ≤ bits .or .i64 b.val (2 ^ k.val) ∧ bits .or .i64 b.val (2 ^ k.val) < 2 ^ n.val ∧ 0 ≤ bits .andNot .i64 b.val (2 ^ k.val) ∧ bits .andNot .i64 b.val (2 ^ k.val) < 2 ^ n.val ∧
      (bits .and .i64 (bits .or .i64 b.val (2 ^ k.val)) (2 ^ k.val) != 0) = true ∧ (bits .and .i64 (bits .andNot .i64 b.val (2 ^ k.val)) (2 ^ k.val) != 0) = false) := by
  decide +kernel
theorem bitOf_yes {k : Nat} (h : k < 8) : bitOf (k : Int) = 2 ^ k := by
  unfold bitOf isNode
  rw [if_pos (by simp; omega), Int.toNat_natCast]
theorem mem_facts {c : CS} {n k : Int} (hn : csN n = true) (hc : csOk c n = true) (h0 : 0 ≤ k) (h1 : k < n) :
    csOk (withOf c k) n = true ∧ csOk (withoutOf c k) n = true ∧ hasOf (withOf c k) k = true ∧ hasOf (withoutOf c k) k = false := by
  rw [csN_iff] at hn
  rw [csOk_iff] at hc
  obtain ⟨a1, a2, a3, a4, a5, a6, a7, a8, a9, a10⟩ := hc
  obtain ⟨n, rfl⟩ := Int.eq_ofNat_of_zero_le (show 0 ≤ n by omega)
  obtain ⟨k, rfl⟩ := Int.eq_ofNat_of_zero_le h0
  obtain ⟨b, hb⟩ := Int.eq_ofNat_of_zero_le a9
  rw [Int.toNat_natCast] at a10
  rw [hb] at a10
  have a10' : b < 2 ^ n := by exact_mod_cast a10
  have h28 : 2 ^ n ≤ 2 ^ 8 := Nat.pow_le_pow_right (by decide) (by omega)
  obtain ⟨f1, f2, f3, f4, f5, f6⟩ := mem_all ⟨n, by omega⟩ (by simp only; omega) ⟨k, by omega⟩ (by simp only; omega) ⟨b, by omega⟩ a10'
  simp only at f1 f2 f3 f4 f5 f6
  have hbk := bitOf_yes (k := k) (by omega)
  refine ⟨?_, ?_, ?_, ?_⟩
  · rw [csOk_iff, Int.toNat_natCast]
    refine ⟨a1, a2, a3, a4, a5, a6, a7, a8, ?_, ?_⟩
    · show 0 ≤ bits .or .i64 c.b (bitOf k); rw [hbk, hb]; exact f1
    · show bits .or .i64 c.b (bitOf k) < _; rw [hbk, hb]; exact f2
  · rw [csOk_iff, Int.toNat_natCast]
    refine ⟨a1, a2, a3, a4, a5, a6, a7, a8, ?_, ?_⟩
    · show 0 ≤ bits .andNot .i64 c.b (bitOf k); rw [hbk, hb]; exact f3
    · show bits .andNot .i64 c.b (bitOf k) < _; rw [hbk, hb]; exact f4
  · show (bits .and .i64 (bits .or .i64 c.b (bitOf k)) (bitOf k) != 0) = true
    rw [hbk, hb]; exact f5
  · show (bits .and .i64 (bits .andNot .i64 c.b (bitOf k)) (bitOf k) != 0) = false
    rw [hbk, hb]; exact f6
end Go.Proofs.Ytdjbalaicfienaa
