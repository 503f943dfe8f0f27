/- Plain facts on numbers by bits. No program in sight. -/
import Derived.Test.YtmjodcackmjllaaPlainBits
namespace Go.Proofs.Ytmjodcackmjllaa

/-- the number of bits, the highest first -/
def valOf (bs : List Bool) : Nat := bs.foldl (fun v b => 2 * v + b.toNat) 0
theorem valOf_nil : valOf [] = 0 := rfl
theorem valOf_snoc (bs : List Bool) (b : Bool) : valOf (bs ++ [b]) = 2 * valOf bs + b.toNat := by simp [valOf]
theorem valOf_lt (bs : List Bool) : valOf bs < 2 ^ bs.length := by
  suffices h : ∀ (n : Nat) (bs : List Bool), bs.length = n → valOf bs < 2 ^ n from h _ bs rfl
  intro n
  induction n with
  | zero => intro bs h; obtain rfl := List.eq_nil_of_length_eq_zero h; decide
  | succ n ih =>
    intro bs h
    have hne : bs ≠ [] := by rintro rfl; cases h
    obtain ⟨cs, b, rfl⟩ : ∃ cs b, bs = cs ++ [b] := ⟨bs.dropLast, bs.getLast hne, (List.dropLast_concat_getLast hne).symm⟩
    have hc := ih cs (by simpa using h)
    rw [valOf_snoc, Nat.pow_succ]
    cases b <;> simp <;> omega
theorem take_snoc {α : Type} [Inhabited α] (l : List α) (k : Nat) (d : α) (h : k < l.length) : l.take (k + 1) = l.take k ++ [l.getD k d] := by
  rw [List.take_succ_eq_append_getElem h]
  simp [List.getD_eq_getElem?_getD, h]
/-- the bits of a number, the highest first -/
def numBits (v width : Nat) : List Bool := (List.range width).map fun k => v.testBit (width - 1 - k)
theorem numBits_len (v width : Nat) : (numBits v width).length = width := by simp [numBits]
theorem numBits_getD (v width k : Nat) (h : k < width) : (numBits v width).getD k false = v.testBit (width - 1 - k) := by
  simp [numBits, h]
theorem numBits_succ (v width : Nat) : numBits v (width + 1) = numBits (v / 2) width ++ [v.testBit 0] := by
  unfold numBits
  rw [List.range_succ, List.map_append]
  congr 1
  · apply List.map_congr_left
    intro k hk
    have hk : k < width := List.mem_range.1 hk
    rw [Nat.testBit_div_two]
    congr 1; omega
  · simp
theorem valOf_numBits (width : Nat) : ∀ v, v < 2 ^ width → valOf (numBits v width) = v := by
  induction width with
  | zero => intro v h; have : v = 0 := by omega
            subst this; rfl
  | succ n ih =>
    intro v h
    rw [numBits_succ, valOf_snoc, ih (v / 2) (by rw [Nat.pow_succ] at h; omega), Nat.testBit_zero]
    rcases Nat.mod_two_eq_zero_or_one v with h2 | h2 <;> simp [h2] <;> omega
theorem numBits_valOf (bs : List Bool) : numBits (valOf bs) bs.length = bs := by
  suffices h : ∀ (n : Nat) (bs : List Bool), bs.length = n → numBits (valOf bs) n = bs from h _ bs rfl
  intro n
  induction n with
  | zero => intro bs h; obtain rfl := List.eq_nil_of_length_eq_zero h; rfl
  | succ n ih =>
    intro bs h
    have hne : bs ≠ [] := by rintro rfl; cases h
    obtain ⟨cs, b, rfl⟩ : ∃ cs b, bs = cs ++ [b] := ⟨bs.dropLast, bs.getLast hne, (List.dropLast_concat_getLast hne).symm⟩
    have hc := ih cs (by simpa using h)
    rw [numBits_succ, valOf_snoc]
    have e : (2 * valOf cs + b.toNat) / 2 = valOf cs := by cases b <;> simp <;> omega
    have e2 : (2 * valOf cs + b.toNat).testBit 0 = b := by
      rw [Nat.testBit_zero]; cases b <;> simp <;> omega
    rw [e, e2, hc]
/-- the number of k bits from a place on -/
def getTo (bs : List Bool) (at_ k : Nat) : Nat := valOf ((bs.drop at_).take k)
theorem getTo_zero (bs : List Bool) (at_ : Nat) : getTo bs at_ 0 = 0 := by simp [getTo, valOf]
theorem getTo_succ (bs : List Bool) (at_ k : Nat) (h : at_ + k < bs.length) : getTo bs at_ (k + 1) = 2 * getTo bs at_ k + (bs.getD (at_ + k) false).toNat := by
  unfold getTo
  rw [take_snoc _ _ false (by rw [List.length_drop]; omega), valOf_snoc]
  congr 2
  simp [List.getD_eq_getElem?_getD, List.getElem?_drop]
theorem getTo_lt (bs : List Bool) (at_ k : Nat) : getTo bs at_ k < 2 ^ k := by
  have h1 := valOf_lt ((bs.drop at_).take k)
  have h2 : ((bs.drop at_).take k).length ≤ k := List.length_take_le _ _
  exact Nat.lt_of_lt_of_le h1 (Nat.pow_le_pow_right (by decide) h2)
theorem getTo_lt63 (bs : List Bool) (at_ k : Nat) (h : k < 64) : getTo bs at_ k < 9223372036854775808 := by
  have h1 := getTo_lt bs at_ k
  have h2 : 2 ^ k ≤ 2 ^ 63 := Nat.pow_le_pow_right (by decide) (by omega)
  omega
end Go.Proofs.Ytmjodcackmjllaa
