/- The walks of layer 3, 16: what Add computes, and writes into a list of samples. -/
import Derived.Test.YtdjbalaicfienaaP12
import Derived.Test.YtdjbalaicfienaaP5
import Derived.Laws.OwnMore
namespace Go.Proofs.Ytdjbalaicfienaa
open Go.RowKit
set_option linter.unusedVariables false
set_option linter.unusedSimpArgs false
def sm (a b : Smp) : Smp := ⟨a.i + b.i, a.q + b.q⟩
theorem sm_zero (a : Smp) : sm a ⟨0, 0⟩ = a := by simp [sm]
def rowOf (ls : List RS) (k : Nat) : List Smp := (ls.getD k ⟨none, 0, []⟩).xs
theorem rowOf_get (ls : List RS) (k : Nat) (h : k < ls.length) : rowOf ls k = ls[k].xs := by simp [rowOf, List.getD_eq_getElem?_getD, h]
def colTo (ls : List RS) : Nat → Nat → Smp
  | 0, _ => ⟨0, 0⟩
  | k + 1, j => sm (colTo ls k j) ((rowOf ls k).getD j ⟨0, 0⟩)
def longTo (ls : List RS) : Nat → Nat
  | 0 => 0
  | k + 1 => max (longTo ls k) (rowOf ls k).length
def accS (ls : List RS) (k i L : Nat) : List Smp := (List.range L).map fun j => if j < i then colTo ls (k + 1) j else colTo ls k j
theorem accS_len (ls : List RS) (k i L : Nat) : (accS ls k i L).length = L := by simp [accS]
theorem accS_get (ls : List RS) (k i L j : Nat) (h : j < (accS ls k i L).length) : (accS ls k i L)[j] = if j < i then colTo ls (k + 1) j else colTo ls k j := by simp [accS]
theorem accS_at (ls : List RS) (k i L : Nat) (h : i < (accS ls k i L).length) : (accS ls k i L)[i] = colTo ls k i := by rw [accS_get, if_neg (Nat.lt_irrefl _)]
theorem accS_set (ls : List RS) (k i L : Nat) (h : i < L) : (accS ls k i L).set i (colTo ls (k + 1) i) = accS ls k (i + 1) L := by
  apply List.ext_getElem
  · rw [List.length_set, accS_len, accS_len]
  · intro j h1 h2
    rw [List.getElem_set, accS_get]
    by_cases e : i = j
    · subst e; rw [if_pos rfl, accS_get, if_pos (Nat.lt_succ_self _)]
    · rw [if_neg e, accS_get]
      by_cases hj : j < i
      · rw [if_pos hj, if_pos (by omega)]
      · rw [if_neg hj, if_neg (by omega)]
theorem colTo_out (ls : List RS) (k j : Nat) (h : longTo ls k ≤ j) : colTo ls k j = ⟨0, 0⟩ := by
  induction k with
  | zero => rfl
  | succ k ih =>
    simp only [longTo] at h
    simp only [colTo]
    rw [ih (by omega), List.getD_eq_getElem?_getD, List.getElem?_eq_none (by omega)]
    rfl
theorem accS_app (ls : List RS) (k i : Nat) (h : longTo ls k ≤ i) : accS ls k i i ++ [⟨0, 0⟩] = accS ls k i (i + 1) := by
  unfold accS
  rw [List.range_succ, List.map_append, List.map_cons, List.map_nil, if_neg (Nat.lt_irrefl _), colTo_out ls k i h]
theorem accS_row (ls : List RS) (k i L : Nat) (h : (rowOf ls k).length ≤ i) : accS ls k i L = accS ls (k + 1) 0 L := by
  apply List.ext_getElem
  · rw [accS_len, accS_len]
  · intro j h1 h2
    rw [accS_get, accS_get, if_neg (Nat.not_lt_zero _)]
    by_cases hj : j < i
    · rw [if_pos hj]
    · rw [if_neg hj]
      simp only [colTo]
      rw [List.getD_eq_getElem?_getD, List.getElem?_eq_none (by omega)]
      exact (sm_zero _).symm
theorem accS_start (ls : List RS) (L : Nat) : accS ls 0 0 L = List.replicate L ⟨0, 0⟩ := by
  rw [List.eq_replicate_iff]
  refine ⟨accS_len _ _ _ _, fun b hb => ?_⟩
  obtain ⟨j, -, rfl⟩ := List.mem_map.1 hb
  rw [if_neg (Nat.not_lt_zero _)]
  rfl
def inB (N : Nat) (s : Smp) : Prop := s.i.natAbs ≤ N * 262144 ∧ s.q.natAbs ≤ N * 262144
theorem mayB_in (s : Smp) (h : mayB s = true) : inB 1 s := by
  rw [mayB_iff] at h
  unfold inB
  omega
theorem getD_in (xs : List Smp) (j : Nat) (h : allB xs = true) : inB 1 (xs.getD j ⟨0, 0⟩) := by
  by_cases hj : j < xs.length
  · rw [List.getD_eq_getElem?_getD, List.getElem?_eq_getElem hj]
    exact mayB_in _ (allB_get h j hj)
  · rw [List.getD_eq_getElem?_getD, List.getElem?_eq_none (by omega)]
    exact ⟨Nat.zero_le _, Nat.zero_le _⟩
theorem colTo_in (ls : List RS) (hall : ∀ k (hk : k < ls.length), allB ls[k].xs = true) (k j : Nat) (hk : k ≤ ls.length) : inB k (colTo ls k j) := by
  induction k with
  | zero => exact ⟨Nat.zero_le _, Nat.zero_le _⟩
  | succ k ih =>
    have h1 := ih (by omega)
    have h2 := getD_in (rowOf ls k) j (by rw [rowOf_get ls k (by omega)]; exact hall k (by omega))
    simp only [colTo, sm]
    unfold inB at *
    simp only
    omega
theorem longTo_le (ls : List RS) (N : Nat) (h : ∀ x ∈ ls, x.xs.length ≤ N) (k : Nat) (hk : k ≤ ls.length) : longTo ls k ≤ N := by
  induction k with
  | zero => exact Nat.zero_le _
  | succ k ih =>
    have := ih (by omega)
    simp only [longTo]
    rw [rowOf_get ls k (by omega)]
    have := h ls[k] (List.getElem_mem _)
    omega
theorem longTo_mono (ls : List RS) (k m : Nat) (h : k ≤ m) : longTo ls k ≤ longTo ls m := by
  induction m with
  | zero => obtain rfl : k = 0 := by omega
            exact Nat.le_refl _
  | succ m ih =>
    by_cases e : k = m + 1
    · subst e; exact Nat.le_refl _
    · have := ih (by omega)
      simp only [longTo]
      omega
theorem longTo_row (ls : List RS) (k m : Nat) (h : k < m) : (rowOf ls k).length ≤ longTo ls m := by
  have := longTo_mono ls (k + 1) m h
  simp only [longTo] at this
  omega
def allRs (ls : List RS) : Bool := ls.all fun x => allB x.xs
theorem allRs_no (ls : List RS) (k : Nat) (hk : k < ls.length) (h : allB ls[k].xs = false) : allRs ls = false := by
  unfold allRs
  rw [List.all_eq_false]
  exact ⟨ls[k], List.getElem_mem _, by rw [h]; decide⟩
theorem allRs_yes (ls : List RS) (h : ∀ j (hj : j < ls.length), allB ls[j].xs = true) : allRs ls = true := by
  unfold allRs
  rw [List.all_eq_true]
  intro x hx
  obtain ⟨j, hj, rfl⟩ := List.getElem_of_mem hx
  exact h j hj
def addRes (ls : List RS) : List Smp × Int :=
  cond (allRs ls) (cond (allB (accS ls ls.length 0 (longTo ls ls.length))) (accS ls ls.length 0 (longTo ls ls.length), 0) ([], 31)) ([], 31)
theorem addRes_no (ls : List RS) (h : allRs ls = false) : addRes ls = ([], 31) := by unfold addRes; rw [h]; rfl
theorem addRes_yes (ls : List RS) (h : allRs ls = true) : addRes ls = cond (allB (accS ls ls.length 0 (longTo ls ls.length))) (accS ls ls.length 0 (longTo ls ls.length), 0) ([], 31) := by unfold addRes; rw [h]; rfl
theorem sCells_set : ∀ (xs : List Smp) (i : Nat) (hi : i < xs.length) (s : Smp), ((sCells xs).set (i * 2) (.int .i64 s.i)).set (i * 2 + 1) (.int .i64 s.q) = sCells (xs.set i s)
  | x :: xs, 0, hi, s => by simp [sCells, Smp.cells]
  | x :: xs, i + 1, hi, s => by
    have := sCells_set xs i (by simpa using hi) s
    unfold sCells at *
    simp only [List.flatMap_cons, List.set_cons_succ]
    rw [← this, show (i + 1) * 2 = i * 2 + 1 + 1 by omega]
    simp [Smp.cells]
/-- 'l[i] = s', of a list that the call itself has made -/
theorem OwnP.put {w : World} {base g n cap : Nat} {xs : List Smp} (h : OwnP w base (.slice (some ⟨g, 0, none⟩) n cap) xs) (hn : xs.length = n) (i : Nat) (hi : i < xs.length) (s : Smp) :
    OwnP ((w.setCell ⟨g, i * 2, none⟩ (.int .i64 s.i)).setCell ⟨g, i * 2 + 1, none⟩ (.int .i64 s.q)) base (.slice (some ⟨g, 0, none⟩) n cap) (xs.set i s) := by
  subst hn
  obtain ⟨h1, -⟩ := World.ownsRow.stored h (i * 2) (.int .i64 s.i)
  obtain ⟨h2, -⟩ := World.ownsRow.stored h1 (i * 2 + 1) (.int .i64 s.q)
  rw [sCells_set xs i hi s] at h2
  unfold OwnP
  rwa [List.length_set]
theorem madeCells_zero (L : Nat) : (madeCells (Value.agg #[.int .i64 0, .int .i64 0]).cells (L * 2)).toList = sCells (List.replicate L ⟨0, 0⟩) := by
  have h1 : (madeCells (Value.agg #[.int .i64 0, .int .i64 0]).cells (L * 2)).toList = List.replicate (L * 2) (.int .i64 0) := by
    rw [List.eq_replicate_iff]
    refine ⟨by rw [Array.length_toList, size_madeCells], fun b hb => ?_⟩
    unfold madeCells at hb
    rw [Array.toList_map, List.mem_map] at hb
    obtain ⟨k, -, rfl⟩ := hb
    have : k % 2 = 0 ∨ k % 2 = 1 := by omega
    show (#[Value.int .i64 0, .int .i64 0] : Array Value)[k % 2]! = _
    rcases this with e | e <;> rw [e] <;> rfl
  rw [h1]
  symm
  rw [List.eq_replicate_iff]
  refine ⟨?_, fun b hb => ?_⟩
  · rw [show (sCells (List.replicate L ⟨0, 0⟩)).length = (List.replicate L (⟨0, 0⟩ : Smp)).length * 2 from ?_, List.length_replicate]
    exact sCells_length _
  · simp only [sCells, List.mem_flatMap, List.mem_replicate] at hb
    obtain ⟨x, ⟨-, rfl⟩, hb⟩ := hb
    simpa [Smp.cells] using hb
theorem make_full (A : Int) (L : Nat) (h : A = L) (hL : L ≤ 100000) : ∃ Z : Array Value, (∀ w : World, (Instr.makeSlice 52 (.int .i64 A) (.int .i64 A)).run Try.prog w = .ok (.slice (some ⟨w.heap.size, 0, none⟩) L L) (w.alloc (.cells Z 63))) ∧ ∀ w : World, OwnP (w.alloc (.cells Z 63)) w.heap.size (.slice (some ⟨w.heap.size, 0, none⟩) L L) (List.replicate L ⟨0, 0⟩) := by
  subst h
  obtain ⟨i, hi, hz0, hz1, hz2⟩ := info_parts infoSmp
  refine ⟨madeCells (Value.agg #[.int .i64 0, .int .i64 0]).cells (L * 2), fun w => ?_, fun w => ?_⟩
  · have hr := run_make (P := Try.prog) w 52 63 i _ Try.underlying52 hi hz0 .i64 .i64 L L (by omega) (Int.le_refl _) (by rw [hz2]; omega) (by omega)
    rw [hz1] at hr
    simpa using hr
  · refine ⟨by rw [sCells_length], .inr ⟨w.heap.size, L, _, by rw [List.length_replicate], Nat.le_refl _, heap_alloc_new w _, by rw [List.length_replicate]; exact Nat.le_refl _, by unfold maxLen; omega, size_madeCells _ _, ?_⟩⟩
    rw [madeCells_zero, List.take_of_length_le]
    rw [sCells_length, List.length_replicate]
    exact Nat.le_refl _
theorem SRs.row {w : World} {a : Option Addr} {n cap : Nat} {ls : List RS} (h : SRs w a n cap ls) (k : Nat) (hk : k < ls.length) : SRow w ls[k].a ls[k].xs.length ls[k].cap ls[k].xs := h.isIn _ (List.getElem_mem _)
end Go.Proofs.Ytdjbalaicfienaa
