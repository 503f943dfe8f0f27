/- Plain: bits behind each other. -/
import Derived.Test.YtkbdpdcandpfdaaW8
namespace Go.Proofs.Ytkbdpdcandpfdaa
open Go.RowKit
set_option linter.unusedVariables false
set_option linter.unusedSimpArgs false

/-- the first k behind each other -/
def flatTo (xs : List RB) (k : Nat) : List Bool := (xs.take k).flatMap RB.bits
theorem flatTo_zero (xs : List RB) : flatTo xs 0 = [] := rfl
theorem flatTo_succ (xs : List RB) (k : Nat) (h : k < xs.length) : flatTo xs (k + 1) = flatTo xs k ++ xs[k].bits := by
  unfold flatTo
  rw [List.take_succ_eq_append_getElem h, List.flatMap_append]
  simp
theorem flatTo_le (xs : List RB) (k j : Nat) (h : k ≤ j) : (flatTo xs k).length ≤ (flatTo xs j).length := by
  unfold flatTo
  have e : xs.take k = (xs.take j).take k := by rw [List.take_take, Nat.min_eq_left h]
  rw [e]
  conv => rhs; rw [← List.take_append_drop k (xs.take j)]
  rw [List.flatMap_append, List.length_append]
  omega
/-- the answer of Join -/
def joinRes (xs : List RB) : List Bool × Int := if xs.all fun x => chk x.n x.l then (if (flatTo xs xs.length).length ≤ 4096 then (flatTo xs xs.length, 0) else ([], 3)) else ([], 10)
theorem joinRes_no (xs : List RB) (i : Nat) (hi : i < xs.length) (h : chk xs[i].n xs[i].l = false) : joinRes xs = ([], 10) := by
  unfold joinRes
  rw [if_neg]
  intro hh
  rw [List.all_eq_true] at hh
  have := hh _ (List.getElem_mem hi)
  rw [h] at this
  cases this
theorem all_chk (xs : List RB) (h : ∀ i (hi : i < xs.length), chk xs[i].n xs[i].l = true) : (xs.all fun x => chk x.n x.l) = true := by
  rw [List.all_eq_true]
  intro x hx
  obtain ⟨i, hi, rfl⟩ := List.getElem_of_mem hx
  exact h i hi
theorem joinRes_long (xs : List RB) (h : ∀ i (hi : i < xs.length), chk xs[i].n xs[i].l = true) (hl : 4096 < (flatTo xs xs.length).length) : joinRes xs = ([], 3) := by
  unfold joinRes
  rw [if_pos (all_chk xs h), if_neg (by omega)]
theorem joinRes_yes (xs : List RB) (h : ∀ i (hi : i < xs.length), chk xs[i].n xs[i].l = true) (hl : (flatTo xs xs.length).length ≤ 4096) : joinRes xs = (flatTo xs xs.length, 0) := by
  unfold joinRes
  rw [if_pos (all_chk xs h), if_pos hl]
theorem bits_len (x : RB) : x.bits.length = x.n.toNat := unpack_len _ _
end Go.Proofs.Ytkbdpdcandpfdaa
