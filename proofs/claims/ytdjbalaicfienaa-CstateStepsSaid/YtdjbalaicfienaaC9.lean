/- Plain: a state's bits and back. -/
import Derived.Test.YtdjbalaicfienaaC6
namespace Go.Proofs.Ytdjbalaicfienaa
set_option linter.unusedVariables false

theorem getTo_mid (xs zs : List Bool) (v k n : Nat) (hn : n = xs.length) (hv : v < 2 ^ k) : getTo (xs ++ (numBits v k ++ zs)) n k = v := by
  subst hn
  unfold getTo
  rw [List.drop_left, List.take_append_of_le_length (by rw [numBits_len]; omega)]
  rw [show (numBits v k).take k = numBits v k from List.take_of_length_le (by rw [numBits_len]; omega)]
  exact valOf_numBits k v hv
theorem numBits_getTo (bs : List Bool) (at_ k : Nat) (h : at_ + k ≤ bs.length) : numBits (getTo bs at_ k) k = (bs.drop at_).take k := by
  unfold getTo
  have hl : ((bs.drop at_).take k).length = k := by simp; omega
  have := numBits_valOf ((bs.drop at_).take k)
  rwa [hl] at this
theorem csBits_len (c : CS) : (csBits c).length = 24 := by
  simp [csBits, csTo, numBits_len]
theorem csOf_csBits {c : CS} (h : csOk c 8 = true) : csOf (csBits c) = c := by
  rw [csOk_iff] at h
  obtain ⟨t, p, m, x, b⟩ := c
  obtain ⟨h1, h2, h3, h4, h5, h6, h7, h8, h9, h10⟩ := h
  simp only at h1 h2 h3 h4 h5 h6 h7 h8 h9 h10
  have e10 : b < 256 := h10
  obtain ⟨t, rfl⟩ := Int.eq_ofNat_of_zero_le h1
  obtain ⟨p, rfl⟩ := Int.eq_ofNat_of_zero_le h3
  obtain ⟨m, rfl⟩ := Int.eq_ofNat_of_zero_le h5
  obtain ⟨x, rfl⟩ := Int.eq_ofNat_of_zero_le h7
  obtain ⟨b, rfl⟩ := Int.eq_ofNat_of_zero_le h9
  have e : csBits ⟨(t : Int), (p : Int), (m : Int), (x : Int), (b : Int)⟩ = numBits t 8 ++ (numBits p 3 ++ (numBits m 2 ++ (numBits x 3 ++ (numBits b 8 ++ [])))) := by
    simp only [csBits, csTo, Int.toNat_natCast, List.nil_append, List.append_nil, List.append_assoc]
  rw [e]
  unfold csOf
  have g0 : getTo (numBits t 8 ++ (numBits p 3 ++ (numBits m 2 ++ (numBits x 3 ++ (numBits b 8 ++ []))))) 0 8 = t := getTo_mid [] _ t 8 0 rfl (by omega)
  have g1 : getTo (numBits t 8 ++ (numBits p 3 ++ (numBits m 2 ++ (numBits x 3 ++ (numBits b 8 ++ []))))) 8 3 = p := getTo_mid (numBits t 8) _ p 3 8 (by simp [numBits_len]) (by omega)
  have g2 : getTo (numBits t 8 ++ (numBits p 3 ++ (numBits m 2 ++ (numBits x 3 ++ (numBits b 8 ++ []))))) 11 2 = m := by
    have := getTo_mid (numBits t 8 ++ numBits p 3) (numBits x 3 ++ (numBits b 8 ++ [])) m 2 11 (by simp [numBits_len]) (by omega)
    simpa only [List.append_assoc] using this
  have g3 : getTo (numBits t 8 ++ (numBits p 3 ++ (numBits m 2 ++ (numBits x 3 ++ (numBits b 8 ++ []))))) 13 3 = x := by
    have := getTo_mid (numBits t 8 ++ numBits p 3 ++ numBits m 2) (numBits b 8 ++ []) x 3 13 (by simp [numBits_len]) (by omega)
    simpa only [List.append_assoc] using this
  have g4 : getTo (numBits t 8 ++ (numBits p 3 ++ (numBits m 2 ++ (numBits x 3 ++ (numBits b 8 ++ []))))) 16 8 = b := by
    have := getTo_mid (numBits t 8 ++ numBits p 3 ++ numBits m 2 ++ numBits x 3) [] b 8 16 (by simp [numBits_len]) (by omega)
    simpa only [List.append_assoc] using this
  rw [g0, g1, g2, g3, g4]
theorem csBits_csOf {bs : List Bool} (h : bs.length = 24) : csBits (csOf bs) = bs := by
  simp only [csBits, csOf, csTo, Int.toNat_natCast, List.nil_append]
  rw [numBits_getTo bs 0 8 (by omega), numBits_getTo bs 8 3 (by omega), numBits_getTo bs 11 2 (by omega), numBits_getTo bs 13 3 (by omega), numBits_getTo bs 16 8 (by omega)]
  rw [List.drop_zero, ← List.take_add, ← List.take_add, ← List.take_add, ← List.take_add]
  exact List.take_of_length_le (by omega)
theorem csBits_inj {a b : CS} (ha : csOk a 8 = true) (hb : csOk b 8 = true) (h : csBits a = csBits b) : a = b := by
  rw [← csOf_csBits ha, ← csOf_csBits hb, h]
theorem cparse_csBits {c : CS} (h : csOk c 8 = true) : cparseIs (csBits c) = (c, 0) := by
  rw [cparse_ok (csBits_len c) (by rw [csOf_csBits h]; exact h), csOf_csBits h]
/-- what is read of bits that may be read -/
theorem cparse_cases (x : RB) {w : World} (hx : x.In w) : (∃ bs, x.Is w bs ∧ bs.length = 24 ∧ csOk (csOf bs) 8 = true ∧ cparseRes x = (csOf bs, 0)) ∨ (cparseRes x = (CS.zero, 10)) ∨ (cparseRes x = (CS.zero, 40)) := by
  unfold cparseRes
  cases hc : chk x.n x.l
  · exact .inr (.inl rfl)
  · rw [if_pos rfl]
    by_cases hl : x.bits.length = 24
    · cases hr : csOk (csOf x.bits) 8
      · exact .inr (.inr (cparse_may hl hr))
      · exact .inl ⟨x.bits, hx.is hc, hl, hr, cparse_ok hl hr⟩
    · exact .inr (.inr (cparse_long hl))
end Go.Proofs.Ytdjbalaicfienaa
