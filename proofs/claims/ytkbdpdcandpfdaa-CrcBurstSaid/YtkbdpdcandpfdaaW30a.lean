/- Up to 24 bits turned, one behind the other, are told. -/
import Derived.Test.YtkbdpdcandpfdaaW29
namespace Go.Proofs.Ytkbdpdcandpfdaa
open Go.RowKit
set_option linter.unusedVariables false
set_option linter.unusedSimpArgs false

theorem flip1_nat (bs : List Bool) (i : Nat) : flip1 bs (i : Int) = bs.set i (!bs.getD i false) := by
  unfold flip1
  rw [Int.toNat_natCast]
theorem foldl_flip_getD (X : List Bool) (pat at_ k : Nat) (h : at_ + k ≤ X.length) (i : Nat) :
    ((onesAt pat at_ k).foldl flip1 X).getD i false = (X.getD i false ^^ (decide (at_ ≤ i) && (decide (i < at_ + k) && pat.testBit (i - at_)))) := by
  induction k with
  | zero =>
    have e : (decide (at_ ≤ i) && (decide (i < at_ + 0) && pat.testBit (i - at_))) = false := by
      by_cases h1 : at_ ≤ i
      · rw [decide_eq_false (show ¬ i < at_ + 0 by omega)]; simp
      · simp [h1]
    rw [onesAt_zero, e]; simp
  | succ k ih =>
    have ih := ih (by omega)
    have hl := foldl_flip_len (onesAt pat at_ k) X
    by_cases hi : i = at_ + k
    · subst hi
      have e1 : (decide (at_ ≤ at_ + k) && (decide (at_ + k < at_ + k) && pat.testBit (at_ + k - at_))) = false := by simp
      have e2 : (decide (at_ ≤ at_ + k) && (decide (at_ + k < at_ + (k + 1)) && pat.testBit (at_ + k - at_))) = pat.testBit k := by
        rw [show at_ + k - at_ = k by omega, decide_eq_true (show at_ ≤ at_ + k by omega), decide_eq_true (show at_ + k < at_ + (k + 1) by omega)]; rfl
      rw [e1] at ih
      rw [e2]
      cases hb : pat.testBit k
      · rw [onesAt_no _ _ _ hb, ih]
      · rw [onesAt_yes _ _ _ hb, List.foldl_append]
        show (flip1 _ _).getD _ _ = _
        rw [flip1_nat, set_getD, if_pos ⟨rfl, by rw [hl]; omega⟩, ih]
        simp
    · have e : (decide (i < at_ + (k + 1))) = decide (i < at_ + k) := decide_eq_decide.2 (by omega)
      rw [e]
      cases hb : pat.testBit k
      · rw [onesAt_no _ _ _ hb, ih]
      · rw [onesAt_yes _ _ _ hb, List.foldl_append]
        show (flip1 _ _).getD _ _ = _
        rw [flip1_nat, set_getD, if_neg (by rintro ⟨h1, -⟩; exact hi h1.symm), ih]
/-- what a burst turns -/
theorem burst_xor (X : List Bool) (pat at_ : Nat) (ha : at_ ≤ X.length) (hp : pat < 16777216) :
    ∃ ps j, ps.length ≤ 24 ∧ xorL X (flips X (onesAt pat at_ (min 32 (X.length - at_))) (onesAt pat at_ (min 32 (X.length - at_))).length) = List.replicate at_ false ++ (ps ++ List.replicate j false) := by
  refine ⟨(List.range (min 24 (X.length - at_))).map fun i => pat.testBit i, X.length - at_ - min 24 (X.length - at_), by simp; omega, ?_⟩
  have hfl := flips_len X (onesAt pat at_ (min 32 (X.length - at_))) (onesAt pat at_ (min 32 (X.length - at_))).length
  apply ext_getD
  · rw [xorL_len _ _ hfl.symm]; simp; omega
  · intro i hi
    rw [xorL_len _ _ hfl.symm] at hi
    rw [xorL_getD _ _ hfl.symm]
    unfold flips
    rw [List.take_length, foldl_flip_getD _ _ _ _ (by omega)]
    have ex : ∀ a c : Bool, (a ^^ (a ^^ c)) = c := by decide
    rw [ex, getD_app, getD_app, getD_rep, getD_rep]
    simp only [List.length_replicate, List.length_map, List.length_range]
    by_cases h1 : i < at_
    · rw [if_pos h1, decide_eq_false (by omega)]; rfl
    · rw [if_neg h1, decide_eq_true (show at_ ≤ i by omega)]
      by_cases h2 : i - at_ < min 24 (X.length - at_)
      · rw [if_pos h2, decide_eq_true (show i < at_ + min 32 (X.length - at_) by omega)]
        simp [List.getD_eq_getElem?_getD, h2]
      · rw [if_neg h2]
        have : pat.testBit (i - at_) = false := by
          apply Nat.testBit_lt_two_pow
          have : 2 ^ 24 ≤ 2 ^ (i - at_) := Nat.pow_le_pow_right (by decide) (by omega)
          omega
        rw [this]; simp
/-- what was turned is told -/
theorem open_told (bs cs Y ps : List Bool) (k j : Nat) (hl : Y.length = (bs ++ numBits (crcOver (crcOver 0 cs) bs) 24).length) (hp : ps.length ≤ 24)
    (hx : xorL (bs ++ numBits (crcOver (crcOver 0 cs) bs) 24) Y = List.replicate k false ++ (ps ++ List.replicate j false)) (hne : ¬ bs ++ numBits (crcOver (crcOver 0 cs) bs) 24 = Y) : openIs Y cs = ([], 21) := by
  have hc : crcOver 0 cs < 16777216 := crcOver_lt _ _ (by decide)
  have hs : crcOver (crcOver 0 cs) bs < 16777216 := crcOver_lt _ _ hc
  unfold openIs
  rw [if_neg]
  intro h
  have hY : crcOver (crcOver 0 cs) Y = 0 := by
    have e : Y = part Y 0 (Y.length - 24) ++ numBits (getTo Y (Y.length - 24) 24) 24 := by
      have hd : ((Y.drop (Y.length - 24)).take 24).length = 24 := by
        rw [List.length_append, numBits_len] at hl
        simp; omega
      have := numBits_valOf ((Y.drop (Y.length - 24)).take 24)
      rw [hd] at this
      unfold getTo
      rw [this, part_zero, List.take_of_length_le (l := Y.drop (Y.length - 24)) (by simp; omega), List.take_append_drop]
    rw [e, crcOver_append, h]
    exact crcOver_self _ (crcOver_lt _ _ hc)
  have hX : crcOver (crcOver 0 cs) (bs ++ numBits (crcOver (crcOver 0 cs) bs) 24) = 0 := by
    rw [crcOver_append]; exact crcOver_self _ hs
  have h2 := crcOver_xorL _ Y (crcOver 0 cs) (crcOver 0 cs) hl.symm hc hc
  rw [hX, hY, Nat.xor_self, Nat.xor_self, hx] at h2
  have h3 := crcOver_burst k j ps hp h2
  apply hne
  apply xorL_self_ne _ _ hl.symm
  rw [hx, h3, List.replicate_append_replicate, List.replicate_append_replicate]
  congr 1
  have := congrArg List.length hx
  rw [xorL_len _ _ hl.symm] at this
  simp only [List.length_append, List.length_replicate] at this ⊢
  omega
theorem low24 (v : Nat) (h : v < 4294967296) : bits .and .u32 (v : Int) 16777215 = ((v % 16777216 : Nat) : Int) := by
  rw [show (16777215 : Int) = ((16777215 : Nat) : Int) from rfl, u32_and_nat _ _ h (by decide), show (16777215 : Nat) = 2 ^ 24 - 1 from rfl, Nat.and_two_pow_sub_one_eq_mod]
end Go.Proofs.Ytkbdpdcandpfdaa
