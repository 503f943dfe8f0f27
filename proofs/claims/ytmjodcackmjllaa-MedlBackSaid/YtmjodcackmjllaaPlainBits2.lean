/- Plain facts on bits that are made one by one. No program in sight. -/
import Derived.Test.YtmjodcackmjllaaPlainNum
namespace Go.Proofs.Ytmjodcackmjllaa
/-- the first k are what they shall be, the others are 0 -/
def ofTo (bs : List Bool) (k : Nat) : List Bool := bs.take k ++ List.replicate (bs.length - k) false
theorem ofTo_len (bs : List Bool) (k : Nat) (h : k ≤ bs.length) : (ofTo bs k).length = bs.length := by simp [ofTo]; omega
theorem ofTo_zero (bs : List Bool) : ofTo bs 0 = List.replicate bs.length false := by simp [ofTo]
theorem ofTo_all (bs : List Bool) : ofTo bs bs.length = bs := by simp [ofTo]
theorem ofTo_getD (bs : List Bool) (k i : Nat) : (ofTo bs k).getD i false = if i < k then bs.getD i false else false := by
  unfold ofTo
  simp only [List.getD_eq_getElem?_getD, List.getElem?_append, List.length_take, List.getElem?_take, List.getElem?_replicate]
  by_cases h1 : i < k
  · by_cases h2 : i < bs.length
    · rw [if_pos (by omega), if_pos h1, if_pos h1]
    · rw [if_neg (by omega), if_pos h1]
      have : bs[i]? = none := List.getElem?_eq_none (by omega)
      rw [this]
      split <;> rfl
  · rw [if_neg (by omega), if_neg h1]
    split <;> rfl
theorem ext_getD {as bs : List Bool} (hl : as.length = bs.length) (h : ∀ i, i < as.length → as.getD i false = bs.getD i false) : as = bs := by
  apply List.ext_getElem hl
  intro i h1 h2
  have := h i h1
  simpa [List.getD_eq_getElem?_getD, h1, h2] using this
theorem set_getD (bs : List Bool) (i j : Nat) (b : Bool) : (bs.set i b).getD j false = if i = j ∧ i < bs.length then b else bs.getD j false := by
  simp only [List.getD_eq_getElem?_getD, List.getElem?_set]
  by_cases h : i = j
  · subst h
    by_cases h2 : i < bs.length
    · simp [h2]
    · simp [h2]
  · rw [if_neg h, if_neg (by intro hh; exact h hh.1)]
theorem ofTo_yes (bs : List Bool) (k : Nat) (h : k < bs.length) (hb : bs.getD k false = true) : ofTo bs (k + 1) = (ofTo bs k).set k true := by
  apply ext_getD
  · rw [List.length_set, ofTo_len _ _ h, ofTo_len _ _ (by omega)]
  · intro i hi
    rw [set_getD, ofTo_getD, ofTo_getD, ofTo_len _ _ (by omega)]
    by_cases h1 : k = i
    · subst h1; rw [if_pos (by omega), if_pos ⟨rfl, h⟩, hb]
    · have hx : ¬ (k = i ∧ k < bs.length) := fun hh => h1 hh.1
      rw [if_neg hx]
      by_cases h2 : i < k
      · rw [if_pos h2, if_pos (by omega)]
      · rw [if_neg h2, if_neg (by omega)]
theorem ofTo_no (bs : List Bool) (k : Nat) (h : k < bs.length) (hb : bs.getD k false = false) : ofTo bs (k + 1) = ofTo bs k := by
  apply ext_getD
  · rw [ofTo_len _ _ h, ofTo_len _ _ (by omega)]
  · intro i hi
    rw [ofTo_getD, ofTo_getD]
    by_cases h1 : k = i
    · subst h1; rw [if_pos (by omega), if_neg (by omega), hb]
    · by_cases h2 : i < k
      · rw [if_pos h2, if_pos (by omega)]
      · rw [if_neg h2, if_neg (by omega)]
theorem pack_blank (n : Nat) : pack (List.replicate n false) = List.replicate ((n + 7) / 8) 0 := by
  have := pack_zeros [] n
  simpa [pack] using this
end Go.Proofs.Ytmjodcackmjllaa
