/- The law behind PhasorBack and PhasorNoise: what was sent is read. -/
import Derived.Test.YtdjbalaicfienaaP21
import Derived.Test.YtdjbalaicfienaaP7
import Derived.Test.YtdjbalaicfienaaP12
namespace Go.Proofs.Ytdjbalaicfienaa
open Go.RowKit
set_option linter.unusedVariables false
set_option linter.unusedSimpArgs false
def bitsUp (bs : List Bool) (m : Nat) : List Bool := (List.range m).map fun i => bs.getD i false
theorem bitsUp_len (bs : List Bool) (m : Nat) : (bitsUp bs m).length = m := by simp [bitsUp]
theorem bitsUp_self (bs : List Bool) : bitsUp bs bs.length = bs := by
  apply List.ext_getElem
  · exact bitsUp_len _ _
  · intro j h1 h2
    simp [bitsUp, List.getD_eq_getElem?_getD, h2]
theorem bitsUp_take (bs : List Bool) (m : Nat) (h : bs.length ≤ m) : (bitsUp bs m).take bs.length = bs := by
  apply List.ext_getElem
  · rw [List.length_take, bitsUp_len]; omega
  · intro j h1 h2
    simp [bitsUp, List.getD_eq_getElem?_getD, h2]
theorem bitsUp_over (bs : List Bool) (m : Nat) (h : bs.length < m) : (bitsUp bs m).getD bs.length false = false := by
  simp [bitsUp, List.getD_eq_getElem?_getD, h]
theorem rd_two (a b : Bool) (amp : Int) (h : 1 ≤ amp) : rdOf (twoS a b amp) 0 = [a, b] := by
  unfold rdOf
  simp only [turnS, twoS]
  cases a <;> cases b <;> simp <;> omega
theorem rd_pairs (bs : List Bool) (amp : Int) (h : 1 ≤ amp) : ∀ m, rdTo (pairsTo bs amp m) 0 m = bitsUp bs (2 * m)
  | 0 => rfl
  | m + 1 => by
    have ih := rd_pairs bs amp h m
    unfold rdTo at ih ⊢
    rw [List.take_of_length_le (by rw [pairsTo_len]; exact Nat.le_refl _)] at ih ⊢
    rw [pairsTo_succ, List.flatMap_append, ih]
    simp only [List.flatMap_cons, List.flatMap_nil, List.append_nil]
    rw [rd_two _ _ _ h]
    unfold bitsUp
    rw [show 2 * (m + 1) = 2 * m + 1 + 1 by omega, List.range_succ, List.range_succ]
    simp
/-- the same signs, one by one -/
theorem rdTo_congr (xs ys : List Smp) (k m : Nat) (hx : xs.length = m) (hy : ys.length = m) (h : ∀ j (h1 : j < xs.length) (h2 : j < ys.length), rdOf xs[j] k = rdOf ys[j] 0) : rdTo xs k m = rdTo ys 0 m := by
  have go : ∀ j, j ≤ m → rdTo xs k j = rdTo ys 0 j := by
    intro j
    induction j with
    | zero => intro _; rfl
    | succ j ih =>
      intro hj
      rw [rdTo_succ xs k j (by omega), rdTo_succ ys 0 j (by omega), ih (by omega), h j (by omega) (by omega)]
  exact go m (Nat.le_refl _)
theorem encTo_len (amp : Int) : (encTo amp 8).length = 8 := by simp [encTo, preS]
theorem encS_len (bs : List Bool) (amp : Int) : (encS bs amp).length = 14 + (bs.length + 1) / 2 := by
  unfold encS
  rw [List.length_append, List.length_append, encTo_len, pairsTo_len, pairsTo_len]
  omega
theorem mid_get (A B C : List Smp) (n j : Nat) (hn : A.length = n) (h : n + j < (A ++ (B ++ C)).length) (hb : j < B.length) : (A ++ (B ++ C))[n + j] = B[j] := by
  subst hn
  rw [List.getElem_append_right (by omega), List.getElem_append_left (by omega)]
  congr 1
  omega
theorem end_get (A B C : List Smp) (n j : Nat) (hn : A.length + B.length = n) (h : n + j < (A ++ (B ++ C)).length) (hb : j < C.length) : (A ++ (B ++ C))[n + j] = C[j] := by
  subst hn
  rw [List.getElem_append_right (by omega), List.getElem_append_right (by omega)]
  congr 1
  omega
theorem encS_head (bs : List Bool) (amp : Int) (j : Nat) (hj : j < 6) (h : 8 + j < (encS bs amp).length) (h2 : j < (pairsTo (numBits bs.length 12) amp 6).length) : (encS bs amp)[8 + j] = (pairsTo (numBits bs.length 12) amp 6)[j] :=
  mid_get (encTo amp 8) _ _ 8 j (encTo_len amp) h h2
theorem encS_rest (bs : List Bool) (amp : Int) (j : Nat) (hj : j < (bs.length + 1) / 2) (h : 14 + j < (encS bs amp).length) (h2 : j < (pairsTo bs amp ((bs.length + 1) / 2)).length) : (encS bs amp)[14 + j] = (pairsTo bs amp ((bs.length + 1) / 2))[j] :=
  end_get (encTo amp 8) _ _ 14 j (by rw [encTo_len, pairsTo_len]) h h2
theorem dec_law (bs : List Bool) (amp : Int) (xs : List Smp) (a : Nat) (q : Int) (h1 : 1 ≤ amp) (hN : bs.length ≤ 4095) (hlen : xs.length = a + (encS bs amp).length) (hall : allB xs = true)
    (hrd : ∀ j (hj : j < (encS bs amp).length) (hx : a + j < xs.length), 8 ≤ j → rdOf xs[a + j] (backK q) = rdOf (encS bs amp)[j] 0) : decRes xs a q = (bs, 0) := by
  have hel := encS_len bs amp
  have hx : a + 14 ≤ xs.length := by omega
  generalize hk : backK q = k at hrd
  have e1 : rdTo (partS xs (a + 8) (a + 14)) k 6 = numBits bs.length 12 := by
    rw [rdTo_congr _ (pairsTo (numBits bs.length 12) amp 6) k 6 (by rw [partS_len _ _ _ hx]; omega) (pairsTo_len _ _ _) (fun j g1 g2 => ?_), rd_pairs _ _ h1]
    · have := bitsUp_self (numBits bs.length 12)
      rwa [numBits_len] at this
    · rw [pairsTo_len] at g2
      have := hrd (8 + j) (by omega) (by omega) (by omega)
      rw [encS_head bs amp j g2 (by omega) (by rw [pairsTo_len]; omega)] at this
      rw [← this, partS_get xs (a + 8) (a + 14) j g1 (by omega)]
      congr 2
      omega
  have hN2 : headN xs a k = bs.length := by
    unfold headN
    rw [e1]
    unfold getTo
    rw [List.drop_zero, List.take_of_length_le (by rw [numBits_len]; exact Nat.le_refl _)]
    exact valOf_numBits 12 _ (by omega)
  have hM : (partS xs (a + 14) xs.length).length = (bs.length + 1) / 2 := by rw [partS_len _ _ _ (Nat.le_refl _)]; omega
  have hR : (partS (partS xs (a + 14) xs.length) 0 ((bs.length + 1) / 2)) = partS xs (a + 14) xs.length := by
    have : ∀ l : List Smp, l.length = (bs.length + 1) / 2 → partS l 0 ((bs.length + 1) / 2) = l := fun l hl => by simp [partS, ← hl]
    exact this _ hM
  have e2 : rdTo (partS xs (a + 14) xs.length) k ((bs.length + 1) / 2) = bitsUp bs (2 * ((bs.length + 1) / 2)) := by
    rw [rdTo_congr _ (pairsTo bs amp ((bs.length + 1) / 2)) k _ hM (pairsTo_len _ _ _) (fun j g1 g2 => ?_), rd_pairs _ _ h1]
    rw [pairsTo_len] at g2
    have := hrd (14 + j) (by omega) (by omega) (by omega)
    rw [encS_rest bs amp j g2 (by omega) (by rw [pairsTo_len]; omega)] at this
    rw [← this, partS_get xs (a + 14) xs.length j g1 (by omega)]
    congr 2
    omega
  rw [decRes_nat xs a q hx, hk, allB_part _ _ _ hall, hN2, if_neg (by omega), hR]
  unfold restRes
  rw [allB_part _ _ _ hall, hM, e2]
  have hp : (decide (bs.length < 2 * ((bs.length + 1) / 2)) && (bitsUp bs (2 * ((bs.length + 1) / 2))).getD bs.length false) = false := by
    by_cases h : bs.length < 2 * ((bs.length + 1) / 2)
    · rw [bitsUp_over _ _ h, Bool.and_false]
    · rw [decide_eq_false h, Bool.false_and]
  rw [hp, bitsUp_take _ _ (by omega)]
  rfl
theorem find_law (xs : List Smp) (a : Nat) (h : ∀ k : Nat, k < a → (matchRes xs k).2.2 = false) (ha : (matchRes xs a).2.2 = true) (hl : a < xs.length) : findRes xs 0 = ((a : Int), quarterN (matchRes xs a).1, 0) := by
  have go : ∀ d k m : Nat, k + d = a → d < m → findAt xs k m = some a := by
    intro d
    induction d with
    | zero => intro k m hk hm; obtain rfl : k = a := by omega
              exact findAt_yes xs k m (by omega) ha
    | succ d ih =>
      intro k m hk hm
      rw [findAt_no xs k m (by omega) (h k (by omega))]
      exact ih (k + 1) (m - 1) (by omega) (by omega)
  have := findRes_nat xs 0
  rw [go a 0 (xs.length - 0) (by omega) (by omega)] at this
  exact this
end Go.Proofs.Ytdjbalaicfienaa
