/- The law behind PhasorBack: where the preamble is found. -/
import Derived.Test.YtdjbalaicfienaaP27
namespace Go.Proofs.Ytdjbalaicfienaa
open Go.RowKit
set_option linter.unusedVariables false
set_option linter.unusedSimpArgs false
def win (d : Nat) (amp : Int) : List Smp := (List.replicate d (⟨0, 0⟩ : Smp) ++ encTo amp 8).take 8
theorem win_len (d : Nat) (amp : Int) : (win d amp).length = 8 := by
  unfold win
  rw [List.length_take, List.length_append, List.length_replicate, encTo_len]
  omega
theorem part_win (a k : Nat) (bs : List Bool) (amp : Int) (h : k ≤ a) : partS (List.replicate a (⟨0, 0⟩ : Smp) ++ encS bs amp) k (k + 8) = win (a - k) amp := by
  have e : ∀ (z : Smp) (l : List Smp), (List.replicate a z ++ l).drop k = List.replicate (a - k) z ++ l := fun z l => by
    rw [List.drop_append_of_le_length (by rw [List.length_replicate]; exact h), List.drop_replicate]
  unfold partS win encS
  rw [e, show k + 8 - k = 8 by omega, ← List.append_assoc, List.take_append_of_le_length]
  rw [List.length_append, encTo_len]
  omega
theorem sq_lin (K a : Int) : (K * a) * (K * a) = K * K * (a * a) := by
  rw [Int.mul_assoc, Int.mul_assoc, Int.mul_left_comm a K a]
theorem pw_lin (K M a : Int) : pw ⟨K * a, M * a⟩ = (K * K + M * M) * (a * a) := by
  unfold pw
  rw [sq_lin, sq_lin, Int.add_mul]
theorem corr0 (amp : Int) : corrTo (win 0 amp) 8 = ⟨16 * amp, 0 * amp⟩ := by
  simp [corrTo, win, encTo, preS, scaleS, mprod]; omega
theorem corr1 (amp : Int) : corrTo (win 1 amp) 8 = ⟨(-4) * amp, (-2) * amp⟩ := by
  simp [corrTo, win, encTo, preS, scaleS, mprod]; omega
theorem corr2 (amp : Int) : corrTo (win 2 amp) 8 = ⟨0 * amp, 4 * amp⟩ := by
  simp [corrTo, win, encTo, preS, scaleS, mprod]; omega
theorem corr3 (amp : Int) : corrTo (win 3 amp) 8 = ⟨(-6) * amp, 0 * amp⟩ := by
  simp [corrTo, win, encTo, preS, scaleS, mprod]; omega
theorem pow0 (amp : Int) : powTo (win 0 amp) 8 = 16 * (amp * amp) := by
  simp [powTo, win, encTo, preS, scaleS, pw, Int.neg_mul_neg]; omega
theorem pow1 (amp : Int) : powTo (win 1 amp) 8 = 14 * (amp * amp) := by
  simp [powTo, win, encTo, preS, scaleS, pw, Int.neg_mul_neg]; omega
theorem pow2 (amp : Int) : powTo (win 2 amp) 8 = 12 * (amp * amp) := by
  simp [powTo, win, encTo, preS, scaleS, pw, Int.neg_mul_neg]; omega
theorem pow3 (amp : Int) : powTo (win 3 amp) 8 = 10 * (amp * amp) := by
  simp [powTo, win, encTo, preS, scaleS, pw, Int.neg_mul_neg]; omega
theorem amp_sq (amp : Int) (h : 1 ≤ amp) : 1 ≤ amp * amp := by
  have := Int.mul_le_mul h h (by decide) (by omega)
  simpa using this
theorem isB0 (amp : Int) (h : 1 ≤ amp) : isB (corrTo (win 0 amp) 8) (powTo (win 0 amp) 8) = true := by
  have := amp_sq amp h
  rw [corr0, pow0]
  unfold isB
  rw [pw_lin]
  simp only [Bool.and_eq_true, decide_eq_true_eq]
  omega
theorem isB1 (amp : Int) (h : 1 ≤ amp) : isB (corrTo (win 1 amp) 8) (powTo (win 1 amp) 8) = false := by
  have := amp_sq amp h
  rw [corr1, pow1]
  unfold isB
  rw [pw_lin]
  simp only [Bool.and_eq_false_iff, decide_eq_false_iff_not]
  omega
theorem isB2 (amp : Int) (h : 1 ≤ amp) : isB (corrTo (win 2 amp) 8) (powTo (win 2 amp) 8) = false := by
  have := amp_sq amp h
  rw [corr2, pow2]
  unfold isB
  rw [pw_lin]
  simp only [Bool.and_eq_false_iff, decide_eq_false_iff_not]
  omega
theorem isB3 (amp : Int) (h : 1 ≤ amp) : isB (corrTo (win 3 amp) 8) (powTo (win 3 amp) 8) = false := by
  have := amp_sq amp h
  rw [corr3, pow3]
  unfold isB
  rw [pw_lin]
  simp only [Bool.and_eq_false_iff, decide_eq_false_iff_not]
  omega
theorem mayB_zero : mayB ⟨0, 0⟩ = true := by decide
theorem mayB_two (a b : Bool) (amp : Int) (h1 : 1 ≤ amp) (h2 : amp ≤ 65536) : mayB (twoS a b amp) = true := by
  rw [mayB_iff]
  unfold twoS
  cases a <;> cases b <;> simp only [cond_true, cond_false] <;> omega
theorem allB_pairs (bs : List Bool) (amp : Int) (m : Nat) (h1 : 1 ≤ amp) (h2 : amp ≤ 65536) : allB (pairsTo bs amp m) = true := by
  unfold allB pairsTo
  rw [List.all_eq_true]
  intro x hx
  obtain ⟨t, -, rfl⟩ := List.mem_map.1 hx
  exact mayB_two _ _ _ h1 h2
theorem allB_app (xs ys : List Smp) : allB (xs ++ ys) = (allB xs && allB ys) := by simp [allB]
theorem allB_encTo (amp : Int) (h1 : 1 ≤ amp) (h2 : amp ≤ 65536) : allB (encTo amp 8) = true := by
  unfold allB encTo
  rw [List.all_eq_true]
  intro x hx
  obtain ⟨t, ht, rfl⟩ := List.mem_map.1 hx
  rw [mayB_iff]
  simp only [preS, List.take_succ_cons, List.take_zero, List.mem_cons, List.not_mem_nil, or_false] at ht
  rcases ht with rfl | rfl | rfl | rfl | rfl | rfl | rfl | rfl <;> simp only [scaleS] <;> omega
theorem allB_enc (bs : List Bool) (amp : Int) (h1 : 1 ≤ amp) (h2 : amp ≤ 65536) : allB (encS bs amp) = true := by
  unfold encS
  rw [allB_app, allB_app, allB_encTo amp h1 h2, allB_pairs _ _ _ h1 h2, allB_pairs _ _ _ h1 h2]
  rfl
theorem allB_zeros (a : Nat) : allB (List.replicate a (⟨0, 0⟩ : Smp)) = true := by
  unfold allB
  rw [List.all_eq_true]
  intro x hx
  rw [List.eq_of_mem_replicate hx]
  exact mayB_zero
/-- what was sent, behind a zeros -/
def behind (a : Nat) (bs : List Bool) (amp : Int) : List Smp := List.replicate a (⟨0, 0⟩ : Smp) ++ encS bs amp
theorem behind_len (a : Nat) (bs : List Bool) (amp : Int) : (behind a bs amp).length = a + (14 + (bs.length + 1) / 2) := by
  unfold behind
  rw [List.length_append, List.length_replicate, encS_len]
theorem allB_behind (a : Nat) (bs : List Bool) (amp : Int) (h1 : 1 ≤ amp) (h2 : amp ≤ 65536) : allB (behind a bs amp) = true := by
  unfold behind
  rw [allB_app, allB_zeros, allB_enc bs amp h1 h2]; rfl
theorem match_behind (a k : Nat) (bs : List Bool) (amp : Int) (h1 : 1 ≤ amp) (h2 : amp ≤ 65536) (hk : k ≤ a) : matchRes (behind a bs amp) k = (corrTo (win (a - k) amp) 8, powTo (win (a - k) amp) 8, isB (corrTo (win (a - k) amp) 8) (powTo (win (a - k) amp) 8)) := by
  have hp := part_win a k bs amp hk
  refine matchRes_yes _ k _ hp.symm (by rw [behind_len]; omega) ?_
  rw [← hp]
  exact allB_part _ _ _ (allB_behind a bs amp h1 h2)
theorem win_no (d : Nat) (amp : Int) (h : 1 ≤ amp) (h1 : 1 ≤ d) (h3 : d ≤ 3) : isB (corrTo (win d amp) 8) (powTo (win d amp) 8) = false := by
  have : d = 1 ∨ d = 2 ∨ d = 3 := by omega
  rcases this with rfl | rfl | rfl
  · exact isB1 amp h
  · exact isB2 amp h
  · exact isB3 amp h
theorem quarter_turn (A : Int) (hA : 0 < A) (Q : Nat) (hQ : Q < 4) : quarterN (turnS ⟨A, 0⟩ Q) = Q := by
  unfold quarterN
  have e1 : decide ((((0 : Int).natAbs : Nat) : Int) ≤ ((A.natAbs : Nat) : Int)) = true := decide_eq_true (by omega)
  have e2 : decide ((((A).natAbs : Nat) : Int) ≤ (((0 : Int).natAbs : Nat) : Int)) = false := decide_eq_false (by omega)
  match Q, hQ with
  | 0, _ =>
    simp only [turnS]
    rw [e1, decide_eq_true hA]; rfl
  | 1, _ =>
    simp only [turnS]
    rw [show decide (0 < -(0 : Int)) = false by decide, decide_eq_true hA, show -(0 : Int) = 0 from rfl, e1]; rfl
  | 2, _ =>
    simp only [turnS]
    rw [show decide (0 < -A) = false from decide_eq_false (by omega), show decide (0 < -(0 : Int)) = false by decide, show decide (-A < 0) = true from decide_eq_true (by omega), show decide ((((-(0 : Int)).natAbs : Nat) : Int) ≤ (((-A).natAbs : Nat) : Int)) = true from decide_eq_true (by omega)]; rfl
  | 3, _ =>
    simp only [turnS]
    rw [show decide (0 < (0 : Int)) = false by decide, show decide (0 < -A) = false from decide_eq_false (by omega)]; rfl
def backS (a : Nat) (bs : List Bool) (amp q : Int) : List Smp := (behind a bs amp).map fun s => turnS s (qOf q)
theorem qOf_lt (q : Int) : qOf q < 4 := by
  obtain ⟨k, hk, hq, -⟩ := qOf_cases q
  omega
theorem back_find (a : Nat) (bs : List Bool) (amp q : Int) (h1 : 1 ≤ amp) (h2 : amp ≤ 65536) (ha : a ≤ 3) : findRes (backS a bs amp q) 0 = ((a : Int), (qOf q : Int), 0) := by
  have hall := allB_behind a bs amp h1 h2
  have hm := fun at_ => match_turn (behind a bs amp) (qOf q) at_ hall
  have hno : ∀ k : Nat, k < a → (matchRes (backS a bs amp q) k).2.2 = false := fun k hk => by
    unfold backS
    rw [(hm k).1, match_behind a k bs amp h1 h2 (by omega)]
    exact win_no (a - k) amp h1 (by omega) (by omega)
  have hyes : (matchRes (backS a bs amp q) a).2.2 = true := by
    unfold backS
    rw [(hm a).1, match_behind a a bs amp h1 h2 (Nat.le_refl _), Nat.sub_self]
    exact isB0 amp h1
  have hl : a < (backS a bs amp q).length := by
    unfold backS
    rw [List.length_map, behind_len]
    omega
  rw [find_law (backS a bs amp q) a hno hyes hl]
  unfold backS
  rw [(hm a).2, match_behind a a bs amp h1 h2 (Nat.le_refl _), Nat.sub_self, corr0, show 0 * amp = 0 by omega, quarter_turn (16 * amp) (by omega) _ (qOf_lt q)]
theorem qOf_nat (Q : Nat) (h : Q < 4) : qOf (Q : Int) = Q := by
  have := qOf_emod (Q : Int)
  omega
theorem turn_back (s : Smp) (q : Int) : turnS (turnS s (qOf q)) (backK (qOf q : Int)) = s := by
  have h := qOf_lt q
  unfold backK
  rw [qOf_nat _ h, turnS_mod s _ _ h (by omega), show (qOf q + (4 - qOf q) % 4) % 4 = 0 by omega]
  rfl
theorem turned_get (n k : Nat) (z : Smp) (l : List Smp) (j : Nat) (h : n + j < ((List.replicate n z ++ l).map fun s => turnS s k).length) (hj : j < l.length) : ((List.replicate n z ++ l).map fun s => turnS s k)[n + j] = turnS l[j] k := by
  rw [List.getElem_map, List.getElem_append_right (by rw [List.length_replicate]; omega)]
  congr 2
  rw [List.length_replicate]
  omega
theorem back_dec (a : Nat) (bs : List Bool) (amp q : Int) (h1 : 1 ≤ amp) (h2 : amp ≤ 65536) (hN : bs.length ≤ 4095) : decRes (backS a bs amp q) a (qOf q : Int) = (bs, 0) := by
  refine dec_law bs amp _ a _ h1 hN ?_ (allB_turn _ _ (allB_behind a bs amp h1 h2)) fun j hj hx h8 => ?_
  · unfold backS
    rw [List.length_map, behind_len, encS_len]
  · have e : (backS a bs amp q)[a + j] = turnS (encS bs amp)[j] (qOf q) :=
      turned_get a (qOf q) _ _ j hx hj
    rw [e]
    unfold rdOf
    rw [turn_back]
    rfl
theorem back_rec (a : Nat) (bs : List Bool) (amp q : Int) (h1 : 1 ≤ amp) (h2 : amp ≤ 65536) (ha : a ≤ 3) (hN : bs.length ≤ 4095) : recRes (backS a bs amp q) = (bs, 0) := by
  unfold recRes
  rw [back_find a bs amp q h1 h2 ha]
  exact back_dec a bs amp q h1 h2 hN
end Go.Proofs.Ytdjbalaicfienaa
