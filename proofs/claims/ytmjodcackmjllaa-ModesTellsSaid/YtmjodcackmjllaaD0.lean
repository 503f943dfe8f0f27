/- Layer 10: plain: which modes may come next. -/
import Derived.Test.YtmjodcackmjllaaM8
import Derived.Test.YtmjodcackmjllaaC1
namespace Go.Proofs.Ytmjodcackmjllaa
open Go.RowKit
set_option linter.unusedVariables false
set_option linter.unusedSimpArgs false
theorem medlOk_ns {m : RMedl} (h : medlOk m = true) (x : RM) (hx : x ∈ m.xs) : x.ns.length = m.xs.length := by
  have h2 := ((medlOk_iff m).1 h).2.1
  unfold modesOk at h2
  rw [List.all_eq_true] at h2
  have h3 := h2 x hx
  unfold modeOk at h3
  simp only [Bool.and_eq_true, decide_eq_true_eq] at h3
  exact h3.1.2.2
theorem medlOk_cnt {m : RMedl} (h : medlOk m = true) : 4 ≤ m.nodes ∧ m.nodes ≤ 8 ∧ 1 ≤ m.xs.length ∧ m.xs.length ≤ 4 := by
  have h2 := (countsOk_iff m).1 ((medlOk_iff m).1 h).1
  exact ⟨h2.1, h2.2.1, h2.2.2.1, h2.2.2.2.1⟩
/-- is there a mode -/
def mIn (m : RMedl) (k : Int) : Bool := decide (0 ≤ k) && decide (k < m.xs.length)
theorem mIn_iff (m : RMedl) (k : Int) : mIn m k = true ↔ 0 ≤ k ∧ k < m.xs.length := by simp only [mIn, Bool.and_eq_true, decide_eq_true_eq]
theorem mIn_no {m : RMedl} {k : Int} (h : ¬ (0 ≤ k ∧ k < m.xs.length)) : mIn m k = false := by rw [Bool.eq_false_iff, ne_eq, mIn_iff]; exact h
/-- does a state fit -/
def stOk (m : RMedl) (c : CS) : Bool := decide (csErr c m.nodes = 0) && (mIn m c.m && decide (c.x ≤ m.xs.length))
theorem stOk_iff (m : RMedl) (c : CS) : stOk m c = true ↔ csErr c m.nodes = 0 ∧ mIn m c.m = true ∧ c.x ≤ m.xs.length := by simp only [stOk, Bool.and_eq_true, decide_eq_true_eq]
theorem stOk_no {m : RMedl} {c : CS} (h : ¬ (csErr c m.nodes = 0 ∧ mIn m c.m = true ∧ c.x ≤ m.xs.length)) : stOk m c = false := by rw [Bool.eq_false_iff, ne_eq, stOk_iff]; exact h
def asksE (m : RMedl) (c : CS) : Int := cond (medlOk m) (cond (stOk m c) 0 40) 70
def asksB (m : RMedl) (c : CS) : Bool := medlOk m && stOk m c
theorem asksE_eq (m : RMedl) (c : CS) : decide (asksE m c = 0) = asksB m c := by unfold asksE asksB; cases medlOk m <;> cases stOk m c <;> decide
/-- may a mode come behind another one -/
def nextAt (m : RMedl) (i k : Int) : Bool := match m.xs[i.toNat]? with
  | some x => x.ns.getD k.toNat false
  | none => false
def mayP (m : RMedl) (c : CS) (k : Int) : Bool := mIn m k && (!decide (k = c.m) && (decide (c.x = 0) && nextAt m c.m k))
def nextsTo (m : RMedl) (c : CS) (k : Nat) : List Nat := (List.range k).filter fun j => mayP m c (j : Int)
theorem nextsTo_zero (m : RMedl) (c : CS) : nextsTo m c 0 = [] := rfl
theorem nextsTo_yes {m : RMedl} {c : CS} {k : Nat} (h : mayP m c (k : Int) = true) : nextsTo m c (k + 1) = nextsTo m c k ++ [k] := by simp [nextsTo, List.range_succ, h]
theorem nextsTo_no {m : RMedl} {c : CS} {k : Nat} (h : mayP m c (k : Int) = false) : nextsTo m c (k + 1) = nextsTo m c k := by simp [nextsTo, List.range_succ, h]
theorem nextsTo_le (m : RMedl) (c : CS) (k : Nat) : (nextsTo m c k).length ≤ k := by
  have := List.length_filter_le (fun j : Nat => mayP m c (j : Int)) (List.range k)
  rwa [List.length_range] at this
theorem nextsTo_succ (m : RMedl) (c : CS) (k : Nat) : nextsTo m c k <+: nextsTo m c (k + 1) := by
  unfold nextsTo
  rw [List.range_succ, List.filter_append]
  exact List.prefix_append _ _
theorem nextsTo_prefix (m : RMedl) (c : CS) {k n : Nat} (h : k ≤ n) : nextsTo m c k <+: nextsTo m c n := by
  obtain ⟨d, rfl⟩ := Nat.exists_eq_add_of_le h
  induction d with
  | zero => exact List.prefix_refl _
  | succ d ih => exact List.IsPrefix.trans (ih (by omega)) (nextsTo_succ _ _ _)
theorem nextsTo_lt {m : RMedl} {c : CS} {k n : Nat} (h : mayP m c (k : Int) = true) (hk : k < n) : (nextsTo m c k).length < (nextsTo m c n).length := by
  have h1 := (nextsTo_prefix m c (show k + 1 ≤ n by omega)).length_le
  rw [nextsTo_yes h] at h1
  simp at h1
  omega
def nextsP (m : RMedl) (c : CS) : List Nat := cond (asksB m c) (nextsTo m c m.xs.length) []
theorem nextsP_le (m : RMedl) (c : CS) : (nextsP m c).length ≤ m.xs.length := by
  unfold nextsP
  cases asksB m c
  · exact Nat.zero_le _
  · exact nextsTo_le _ _ _
theorem nextsP_le4 (m : RMedl) (c : CS) : (nextsP m c).length ≤ 4 := by
  cases h : asksB m c
  · unfold nextsP; rw [h]; exact Nat.zero_le _
  · have h2 := nextsP_le m c
    unfold asksB at h
    simp only [Bool.and_eq_true] at h
    have := medlOk_cnt h.1
    omega
theorem mem_nextsP (m : RMedl) (c : CS) (k : Nat) : k ∈ nextsP m c ↔ asksB m c = true ∧ mayP m c (k : Int) = true := by
  unfold nextsP
  cases h : asksB m c
  · simp
  · simp only [cond_true, nextsTo, List.mem_filter, List.mem_range, true_and]
    constructor
    · exact fun h => h.2
    · intro h2
      refine ⟨?_, h2⟩
      have h3 := h2
      unfold mayP at h3
      simp only [Bool.and_eq_true] at h3
      have := (mIn_iff m (k : Int)).1 h3.1
      omega
/-- the mode among those that may come; -1: it is none -/
def takenP (m : RMedl) (c : CS) (k : Int) : Int := cond (asksB m c && mayP m c k) k (-1)
/-- what is asked for -/
def askR (m : RMedl) (c : CS) (k : Int) : Int × Int := cond (asksB m c) (cond (decide (k = -1) || mIn m k) (cond (decide (k < 0)) (0, 0) (takenP m c k + 1, 0)) (0, 100)) (0, asksE m c)
/-- what is taken -/
def takeR (m : RMedl) (c : CS) (r : Int) : CS × Int := cond (asksB m c) (cond (decide (0 ≤ r) && decide (r ≤ m.xs.length)) (cond (decide (0 < r) && mayP m c (r - 1)) ⟨c.t, c.p, c.m, r, c.b⟩ c, 0) (CS.zero, 100)) (CS.zero, asksE m c)
def mayR (m : RMedl) (c : CS) (k : Int) : Bool := asksB m c && mayP m c k
end Go.Proofs.Ytmjodcackmjllaa
