/- Layer 10: plain: how far modes reach. -/
import Derived.Test.YtmjodcackmjllaaD0
namespace Go.Proofs.Ytmjodcackmjllaa
open Go.RowKit
set_option linter.unusedVariables false
set_option linter.unusedSimpArgs false
/-- one of the first i modes that were reached last leads there -/
def hit (a : Nat → Nat → Bool) (f : Nat → Nat) (k i j : Nat) : Bool := (List.range i).any fun i' => decide (f i' = k) && a i' j
theorem hit_zero (a : Nat → Nat → Bool) (f : Nat → Nat) (k j : Nat) : hit a f k 0 j = false := rfl
theorem hit_succ (a : Nat → Nat → Bool) (f : Nat → Nat) (k i j : Nat) : hit a f k (i + 1) j = (hit a f k i j || (decide (f i = k) && a i j)) := by
  unfold hit
  rw [List.range_succ, List.any_append, List.any_cons, List.any_nil, Bool.or_false]
theorem hit_iff (a : Nat → Nat → Bool) (f : Nat → Nat) (k i j : Nat) : hit a f k i j = true ↔ ∃ i', i' < i ∧ f i' = k ∧ a i' j = true := by
  unfold hit
  simp only [List.any_eq_true, List.mem_range, Bool.and_eq_true, decide_eq_true_eq]
/-- within a phase: i modes are done, and j of the next one's -/
def stf (a : Nat → Nat → Bool) (f : Nat → Nat) (k i j : Nat) : Nat → Nat := fun q =>
  if f q = 0 ∧ (hit a f k i q || (decide (q < j) && (decide (f i = k) && a i q))) = true then k + 1 else f q
theorem stf_start (a : Nat → Nat → Bool) (f : Nat → Nat) (k : Nat) : stf a f k 0 0 = f := by
  funext q
  unfold stf
  rw [if_neg]
  simp [hit_zero]
theorem stf_row (a : Nat → Nat → Bool) (f : Nat → Nat) (k i n : Nat) (ha : ∀ q, n ≤ q → a i q = false) : stf a f k i n = stf a f k (i + 1) 0 := by
  funext q
  unfold stf
  rw [hit_succ]
  by_cases h : q < n
  · simp [h]
  · simp [h, ha q (by omega)]
theorem stf_k (a : Nat → Nat → Bool) (f : Nat → Nat) {k : Nat} (hk : 1 ≤ k) (i j q : Nat) : stf a f k i j q = k ↔ f q = k := by
  unfold stf
  split
  · next h => constructor
              · intro h2; omega
              · intro h2; omega
  · exact Iff.rfl
theorem stf_no (a : Nat → Nat → Bool) (f : Nat → Nat) {k : Nat} (hk : 1 ≤ k) (i j : Nat) (h : ¬ (a i j = true ∧ stf a f k i j i = k ∧ stf a f k i j j = 0)) : stf a f k i (j + 1) = stf a f k i j := by
  funext q
  by_cases hq : q = j
  · subst hq
    rw [stf_k a f hk] at h
    unfold stf at h ⊢
    by_cases h0 : f q = 0
    · cases hh : hit a f k i q
      · simp only [h0, hh, Bool.false_or, Nat.lt_irrefl, decide_false, Bool.false_and, Bool.false_eq_true, and_false, if_false, and_true, Nat.lt_succ_self, decide_true, Bool.true_and, true_and] at h ⊢
        rw [if_neg]
        simp only [Bool.and_eq_true, decide_eq_true_eq]
        rintro ⟨h1, h2⟩
        exact h ⟨h2, h1⟩
      · simp [h0]
    · rw [if_neg (fun h2 => h0 h2.1), if_neg (fun h2 => h0 h2.1)]
  · unfold stf
    have e : decide (q < j + 1) = decide (q < j) := by
      by_cases h2 : q < j
      · simp [h2]; omega
      · simp [h2]; omega
    rw [e]
theorem stf_yes (a : Nat → Nat → Bool) (f : Nat → Nat) {k : Nat} (hk : 1 ≤ k) (i j : Nat) (h1 : a i j = true) (h2 : stf a f k i j i = k) (h3 : stf a f k i j j = 0) : stf a f k i (j + 1) = fun q => if q = j then k + 1 else stf a f k i j q := by
  rw [stf_k a f hk] at h2
  have h0 : f j = 0 := by
    unfold stf at h3
    split at h3
    · omega
    · exact h3
  funext q
  by_cases hq : q = j
  · subst hq
    simp only [if_true]
    unfold stf
    rw [if_pos]
    simp [h0, h1, h2]
  · simp only [if_neg hq]
    unfold stf
    have e : decide (q < j + 1) = decide (q < j) := by
      by_cases h2 : q < j
      · simp [h2]; omega
      · simp [h2]; omega
    rw [e]
/-- behind k phases -/
def bfs (a : Nat → Nat → Bool) (n s : Nat) : Nat → Nat → Nat
  | 0 => fun q => if q = s then 1 else 0
  | k + 1 => stf a (bfs a n s k) (k + 1) n 0
theorem bfs_succ (a : Nat → Nat → Bool) (n s k : Nat) : bfs a n s (k + 1) = stf a (bfs a n s k) (k + 1) n 0 := rfl
theorem bfs_keep (a : Nat → Nat → Bool) (n s k q v : Nat) (h : bfs a n s k q = v) (hv : v ≠ 0) : bfs a n s (k + 1) q = v := by
  rw [bfs_succ]
  unfold stf
  rw [if_neg (fun h2 => hv (by rw [← h]; exact h2.1))]
  exact h
theorem bfs_keepTo (a : Nat → Nat → Bool) (n s k q v : Nat) (h : bfs a n s k q = v) (hv : v ≠ 0) : ∀ d, bfs a n s (k + d) q = v
  | 0 => h
  | d + 1 => bfs_keep a n s (k + d) q v (bfs_keepTo a n s k q v h hv d) hv
/-- whatever is reached is reached of one that was reached just before; and by modes alone -/
theorem bfs_before (a : Nat → Nat → Bool) (n s : Nat) (hs : s < n) (ha : ∀ i q, n ≤ q → a i q = false) : ∀ k q, bfs a n s k q ≤ k + 1 ∧ (bfs a n s k q ≠ 0 → q < n) ∧ (2 ≤ bfs a n s k q → ∃ i, bfs a n s k i + 1 = bfs a n s k q)
  | 0, q => by
    unfold bfs
    by_cases h : q = s
    · subst h; simp [hs]
    · simp [h]
  | k + 1, q => by
    have ih := bfs_before a n s hs ha k
    rw [bfs_succ]
    by_cases h : bfs a n s k q = 0 ∧ (hit a (bfs a n s k) (k + 1) n q || (decide (q < 0) && (decide (bfs a n s k n = k + 1) && a n q))) = true
    · have e : stf a (bfs a n s k) (k + 1) n 0 q = k + 1 + 1 := by unfold stf; rw [if_pos h]
      rw [e]
      have h2 := h.2
      simp only [Nat.not_lt_zero, decide_false, Bool.false_and, Bool.or_false] at h2
      obtain ⟨i, hi, h3, h4⟩ := (hit_iff _ _ _ _ _).1 h2
      refine ⟨Nat.le_refl _, fun _ => ?_, fun _ => ⟨i, ?_⟩⟩
      · by_cases hq : q < n
        · exact hq
        · rw [ha i q (by omega)] at h4; cases h4
      · have := bfs_keep a n s k i (k + 1) h3 (by omega)
        rw [bfs_succ] at this
        rw [this]
    · have e : stf a (bfs a n s k) (k + 1) n 0 q = bfs a n s k q := by unfold stf; rw [if_neg h]
      rw [e]
      obtain ⟨h1, h2, h3⟩ := ih q
      refine ⟨by omega, h2, fun h4 => ?_⟩
      obtain ⟨i, hi⟩ := h3 h4
      refine ⟨i, ?_⟩
      have := bfs_keep a n s k i (bfs a n s k i) rfl (by omega)
      rw [bfs_succ] at this
      rw [this]
      exact hi
theorem pig : ∀ (k : Nat) (l : List Nat), (∀ v, 1 ≤ v → v ≤ k → v ∈ l) → k ≤ l.length
  | 0, _, _ => Nat.zero_le _
  | k + 1, l, h => by
    have hm : k + 1 ∈ l := h (k + 1) (by omega) (Nat.le_refl _)
    have := pig k (l.erase (k + 1)) (fun v h1 h2 => (List.mem_erase_of_ne (by omega)).2 (h v h1 (by omega)))
    rw [List.length_erase_of_mem hm] at this
    have h2 := List.length_pos_of_mem hm
    omega
/-- nothing is reached in as many changes as there are modes that is not reached in fewer -/
theorem bfs_le (a : Nat → Nat → Bool) (n s : Nat) (hs : s < n) (ha : ∀ i q, n ≤ q → a i q = false) (k q : Nat) : bfs a n s k q ≤ n := by
  have hb := bfs_before a n s hs ha k
  have key : ∀ d v, v + d = bfs a n s k q → 1 ≤ v → ∃ i, i < n ∧ bfs a n s k i = v := by
    intro d
    induction d with
    | zero =>
      intro v hv h1
      exact ⟨q, (hb q).2.1 (by omega), by omega⟩
    | succ d ih =>
      intro v hv h1
      obtain ⟨i, hi, h2⟩ := ih (v + 1) (by omega) (by omega)
      obtain ⟨i', h3⟩ := (hb i).2.2 (by omega)
      exact ⟨i', (hb i').2.1 (by omega), by omega⟩
  have := pig (bfs a n s k q) ((List.range n).map (bfs a n s k)) (fun v h1 h2 => by
    obtain ⟨i, hi, h3⟩ := key (bfs a n s k q - v) v (by omega) h1
    exact List.mem_map.2 ⟨i, List.mem_range.2 hi, h3⟩)
  rw [List.length_map, List.length_range] at this
  exact this
/-- what comes next is reached in one -/
theorem bfs_one (a : Nat → Nat → Bool) (n s q : Nat) (hs : s < n) (hq : q ≠ s) (h : a s q = true) (hn : 1 ≤ n) : bfs a n s n q = 2 := by
  have h1 : bfs a n s 1 q = 2 := by
    rw [bfs_succ]
    unfold stf
    rw [if_pos]
    refine ⟨by simp [bfs, hq], ?_⟩
    rw [show hit a (bfs a n s 0) (0 + 1) n q = true from (hit_iff _ _ _ _ _).2 ⟨s, hs, by simp [bfs], h⟩, Bool.true_or]
  have := bfs_keepTo a n s 1 q 2 h1 (by decide) (n - 1)
  rwa [show 1 + (n - 1) = n by omega] at this
/-- which mode leads where, of a list -/
def adj (m : RMedl) (i j : Nat) : Bool := nextAt m (i : Int) (j : Int)
def farP (m : RMedl) (s q : Int) : Nat := bfs (adj m) m.xs.length s.toNat m.xs.length q.toNat
def reachR (m : RMedl) (s q k : Int) : Bool × Int := cond (medlOk m) (cond (mIn m s && (mIn m q && decide (0 ≤ k))) (decide (0 < farP m s q) && decide ((farP m s q : Int) - 1 ≤ k), 0) (false, 2)) (false, 70)
theorem adj_out {m : RMedl} (h : medlOk m = true) (i q : Nat) (hq : m.xs.length ≤ q) : adj m i q = false := by
  unfold adj nextAt
  split
  · next x hx =>
    have hl := medlOk_ns h x (List.mem_of_getElem? hx)
    rw [Int.toNat_natCast, List.getD_eq_getElem?_getD, List.getElem?_eq_none (by omega)]
    rfl
  · rfl
end Go.Proofs.Ytmjodcackmjllaa
