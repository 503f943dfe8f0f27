/- Plain: a list is read as it was. -/
import Derived.Test.YtmjodcackmjllaaQ10
namespace Go.Proofs.Ytmjodcackmjllaa
open Go.RowKit
set_option linter.unusedVariables false
set_option linter.unusedSimpArgs false
theorem truTo_testBit (bs : List Bool) (k i : Nat) (h : i < k) : (truTo bs k).testBit i = bs.getD i false := by
  induction k with
  | zero => omega
  | succ k ih =>
    simp only [truTo]
    have hl := truTo_lt bs k
    by_cases hik : i = k
    · subst hik
      cases hb : bs.getD i false
      · simp only [cond_false, Nat.add_zero]
        exact Nat.testBit_lt_two_pow hl
      · simp only [cond_true]
        rw [Nat.add_comm, Nat.testBit_two_pow_add_eq, Nat.testBit_lt_two_pow hl]
        rfl
    · have := ih (by omega)
      cases hb : bs.getD k false
      · simp only [cond_false, Nat.add_zero]
        exact this
      · simp only [cond_true]
        rw [Nat.add_comm, Nat.testBit_two_pow_add_gt (by omega)]
        exact this
theorem truthAt_nat (N i : Nat) : truthAt (N : Int) i = N.testBit i := by
  unfold truthAt
  rw [Nat.testBit_eq_decide_div_mod_eq]
  have : ((N : Int) / 2 ^ i % 2 = 1) ↔ (N / 2 ^ i % 2 = 1) := by
    have e : ((N : Int) / 2 ^ i % 2) = ((N / 2 ^ i % 2 : Nat) : Int) := by simp
    rw [e]
    omega
  simp only [this]
theorem truths_back (bs : List Bool) : truthsOf ((truTo bs bs.length : Nat) : Int) bs.length = bs := by
  apply List.ext_getElem
  · simp [truthsOf_len]
  · intro i h1 h2
    simp only [truthsOf, List.getElem_map, List.getElem_range]
    rw [truthAt_nat, truTo_testBit bs _ i h2]
    simp [List.getD_eq_getElem?_getD, h2]
theorem flat_getD {α : Type} (f : α → List Nat) (L : Nat) : ∀ (xs : List α), (∀ x ∈ xs, (f x).length = L) → ∀ (j t : Nat) (hj : j < xs.length), t < L → (xs.flatMap f).getD (j * L + t) 0 = (f xs[j]).getD t 0
  | x :: xs, h, 0, t, hj, ht => by
    have h0 := h x (by simp)
    simp only [List.flatMap_cons, Nat.zero_mul, Nat.zero_add, List.getElem_cons_zero, List.getD_eq_getElem?_getD]
    rw [List.getElem?_append_left (by omega)]
  | x :: xs, h, j + 1, t, hj, ht => by
    have h0 := h x (by simp)
    have ih := flat_getD f L xs (fun y hy => h y (by simp [hy])) j t (by simpa using hj) ht
    simp only [List.flatMap_cons, List.getElem_cons_succ, List.getD_eq_getElem?_getD] at ih ⊢
    have e : (j + 1) * L + t = L + (j * L + t) := by rw [Nat.add_mul]; omega
    rw [e, List.getElem?_append_right (by omega), h0, Nat.add_sub_cancel_left, ih]
theorem modeBytes_len {m : RMedl} (h : Fit m) {x : RM} (hx : x ∈ m.xs) : (modeBytes x).length = m.nodes.toNat + 2 := by
  obtain ⟨d1, d2, d3, -⟩ := h.d x hx
  simp only [modeBytes, List.length_append, ones_len _ _ (Nat.le_refl _), List.length_cons, List.length_nil]
  omega
theorem flat_len {m : RMedl} (h : Fit m) : (m.xs.flatMap modeBytes).length = m.xs.length * (m.nodes.toNat + 2) := by
  have := medlBody_len h
  unfold medlBody bodyTo at this
  rw [List.length_append, headB_len, List.take_of_length_le (Nat.le_refl _)] at this
  omega
theorem bytes_head {m : RMedl} (i : Nat) (hi : i < 18) : (medlBytes m).getD i 0 = (headB m).getD i 0 := by
  unfold medlBytes medlBody bodyTo
  simp only [List.getD_eq_getElem?_getD]
  rw [List.append_assoc, List.getElem?_append_left (by rw [headB_len]; exact hi)]
theorem bytes_mode {m : RMedl} (h : Fit m) (j t : Nat) (hj : j < m.xs.length) (ht : t < m.nodes.toNat + 2) : (medlBytes m).getD (18 + j * (m.nodes.toNat + 2) + t) 0 = (modeBytes m.xs[j]).getD t 0 := by
  have hfl := flat_len h
  have hmul : (j + 1) * (m.nodes.toNat + 2) ≤ m.xs.length * (m.nodes.toNat + 2) := Nat.mul_le_mul_right _ (by omega)
  rw [Nat.add_mul] at hmul
  unfold medlBytes medlBody bodyTo
  rw [List.take_of_length_le (Nat.le_refl _)]
  have := flat_getD modeBytes (m.nodes.toNat + 2) m.xs (fun x hx => modeBytes_len h hx) j t hj ht
  simp only [List.getD_eq_getElem?_getD] at this ⊢
  rw [List.getElem?_append_left (by rw [List.length_append, headB_len, hfl]; omega), List.getElem?_append_right (by rw [headB_len]; omega), headB_len, show 18 + j * (m.nodes.toNat + 2) + t - 18 = j * (m.nodes.toNat + 2) + t by omega]
  exact this
theorem numB_four (l : List Nat) (p : Nat) : numB l p 4 = 256 * (256 * (256 * (l.getD p 0) + l.getD (p + 1) 0) + l.getD (p + 2) 0) + l.getD (p + 3) 0 := by simp [numB]
theorem numB_one (l : List Nat) (p : Nat) : numB l p 1 = l.getD p 0 := by simp [numB]
theorem be4_back (n : Nat) (h : n < 4294967296) : 256 * (256 * (256 * (n / 16777216 % 256) + n / 65536 % 256) + n / 256 % 256) + n % 256 = n := by omega
theorem getD_snoc1 (l : List Nat) (a b : Nat) (n : Nat) (h : l.length = n) : ((l ++ [a]) ++ [b]).getD n 0 = a ∧ ((l ++ [a]) ++ [b]).getD (n + 1) 0 = b ∧ ∀ t, t < n → ((l ++ [a]) ++ [b]).getD t 0 = l.getD t 0 := by
  subst h
  simp only [List.getD_eq_getElem?_getD]
  refine ⟨by simp, by simp, fun t ht => by rw [List.append_assoc, List.getElem?_append_left ht]⟩
/-- WHAT WAS WRITTEN IS READ AS IT WAS -/
theorem parse_back {m : RMedl} (hok : medlOk m = true) : sameL (pMedl (medlBytes m)) m = true := by
  have hF := medlOk_fit hok
  have hlen := medlBytes_len hF
  have hn1 := hF.n1; have hn2 := hF.n2; have hx1 := hF.x1; have hx2 := hF.x2
  have hN : pNodes (medlBytes m) = m.nodes.toNat := by
    unfold pNodes
    rw [numB_one, bytes_head 1 (by decide), show (headB m).getD 1 0 = (m.nodes % 256).toNat from rfl]
    omega
  have hK : pModes (medlBytes m) = m.xs.length := by
    unfold pModes
    rw [numB_one, bytes_head 2 (by decide), show (headB m).getD 2 0 = ((m.xs.length : Int) % 256).toNat from rfl]
    omega
  have h4 : ∀ p, p + 3 < 18 → numB (medlBytes m) p 4 = 256 * (256 * (256 * ((headB m).getD p 0) + (headB m).getD (p + 1) 0) + (headB m).getD (p + 2) 0) + (headB m).getD (p + 3) 0 := fun p hp => by
    rw [numB_four, bytes_head p (by omega), bytes_head (p + 1) (by omega), bytes_head (p + 2) (by omega), bytes_head (p + 3) (by omega)]
  have hS : ((numB (medlBytes m) 3 4 : Nat) : Int) = m.slot := by
    have := hF.slot
    rw [h4 3 (by decide)]
    have e := be4_back m.slot.toNat (by omega)
    have e2 : 256 * (256 * (256 * ((headB m).getD 3 0) + (headB m).getD (3 + 1) 0) + (headB m).getD (3 + 2) 0) + (headB m).getD (3 + 3) 0 = m.slot.toNat := e
    rw [e2]; omega
  have hG : ((numB (medlBytes m) 7 4 : Nat) : Int) = m.gap := by
    have := hF.gap
    rw [h4 7 (by decide)]
    have e := be4_back m.gap.toNat (by omega)
    have e2 : 256 * (256 * (256 * ((headB m).getD 7 0) + (headB m).getD (7 + 1) 0) + (headB m).getD (7 + 2) 0) + (headB m).getD (7 + 3) 0 = m.gap.toNat := e
    rw [e2]; omega
  have hW : ((numB (medlBytes m) 11 4 : Nat) : Int) = m.window := by
    have := hF.window
    rw [h4 11 (by decide)]
    have e := be4_back m.window.toNat (by omega)
    have e2 : 256 * (256 * (256 * ((headB m).getD 11 0) + (headB m).getD (11 + 1) 0) + (headB m).getD (11 + 2) 0) + (headB m).getD (11 + 3) 0 = m.window.toNat := e
    rw [e2]; omega
  have hD : ((numB (medlBytes m) 15 1 : Nat) : Int) = m.drift := by
    have := hF.drift
    rw [numB_one, bytes_head 15 (by decide), show (headB m).getD 15 0 = (m.drift % 256).toNat from rfl]
    omega
  have hE : ((numB (medlBytes m) 16 1 : Nat) : Int) = m.delay := by
    have := hF.delay
    rw [numB_one, bytes_head 16 (by decide), show (headB m).getD 16 0 = (m.delay % 256).toNat from rfl]
    omega
  have hC : truthsOf ((numB (medlBytes m) 17 1 : Nat) : Int) m.nodes.toNat = m.cs := by
    have hc := hF.c
    rw [numB_one, bytes_head 17 (by decide), show (headB m).getD 17 0 = truTo m.cs m.cs.length from rfl, show m.nodes.toNat = m.cs.length by omega]
    exact truths_back m.cs
  rw [sameL_iff]
  unfold pMedl
  simp only [hN, hK]
  refine ⟨by omega, hS, hG, hW, hD, hE, hC, ?_⟩
  apply List.ext_getElem
  · simp
  · intro j h1 h2
    simp only [List.length_map] at h2
    simp only [List.getElem_map, List.getElem_range]
    have hmem := List.getElem_mem h2
    obtain ⟨d1, d2, d3, d4⟩ := hF.d _ hmem
    have hmul : (j + 1) * (m.nodes.toNat + 2) ≤ m.xs.length * (m.nodes.toNat + 2) := Nat.mul_le_mul_right _ (by omega)
    rw [Nat.add_mul] at hmul
    have hb := fun t ht => bytes_mode hF j t h2 ht
    obtain ⟨x, hx⟩ : ∃ x, x = m.xs[j] := ⟨_, rfl⟩
    rw [← hx] at d1 d2 d3 d4 hb ⊢
    have hol : (ones x.ds x.ds.length).length = m.nodes.toNat := by rw [ones_len _ _ (Nat.le_refl _)]; omega
    obtain ⟨g1, g2, g3⟩ := getD_snoc1 (ones x.ds x.ds.length) (truTo x.es x.es.length) (truTo x.ns x.ns.length) m.nodes.toNat hol
    have htk : ∀ t, t < m.nodes.toNat + 2 → tk (medlBytes m) (18 + j * (m.nodes.toNat + 2) + t) = ((modeBytes x).getD t 0 : Nat) := fun t ht => by
      rw [tk_in _ _ (by omega), hb t ht]
    unfold RM.p pMode
    simp only [Prod.mk.injEq]
    refine ⟨?_, ?_, ?_⟩
    · apply List.ext_getElem
      · simp; omega
      · intro t h3 h4'
        simp only [List.getElem_map, List.getElem_range]
        rw [htk t (by omega)]
        have e1 : (modeBytes x).getD t 0 = (ones x.ds x.ds.length).getD t 0 := g3 t (by omega)
        rw [e1]
        have hd := d4 t h4'
        have e2 : (ones x.ds x.ds.length).getD t 0 = (x.ds.getD t 0 % 256).toNat := by
          simp [ones, List.getD_eq_getElem?_getD, h4']
        rw [e2]
        have e3 : x.ds.getD t 0 = x.ds[t] := by simp [List.getD_eq_getElem?_getD, h4']
        rw [e3] at hd ⊢
        omega
    · rw [htk _ (by omega), show (modeBytes x).getD m.nodes.toNat 0 = truTo x.es x.es.length from g1, show m.nodes.toNat = x.es.length by omega]
      exact truths_back x.es
    · rw [show 18 + j * (m.nodes.toNat + 2) + m.nodes.toNat + 1 = 18 + j * (m.nodes.toNat + 2) + (m.nodes.toNat + 1) by omega, htk _ (by omega), show (modeBytes x).getD (m.nodes.toNat + 1) 0 = truTo x.ns x.ns.length from g2, ← d3]
      exact truths_back x.ns
theorem good_back {m : RMedl} (hok : medlOk m = true) : goodP (medlBytes m) = true := by
  have hs := parse_back hok
  have hF := medlOk_fit hok
  have hlen := medlBytes_len hF
  have hn1 := hF.n1; have hn2 := hF.n2; have hx1 := hF.x1; have hx2 := hF.x2
  have hmul : m.xs.length * (m.nodes.toNat + 2) ≤ 4 * 10 := Nat.mul_le_mul (by omega) (by omega)
  have hp : pNodes (medlBytes m) = m.nodes.toNat ∧ pModes (medlBytes m) = m.xs.length := by
    have := (sameL_iff _ _).1 hs
    obtain ⟨h1, -, -, -, -, -, -, h8⟩ := this
    have h8' := congrArg List.length h8
    simp [pMedl] at h1 h8'
    omega
  rw [goodP_iff]
  refine ⟨⟨by omega, by omega, by omega, by omega⟩, ?_, ?_⟩
  · rw [same_ok hs, hok]
  · exact same_bytes hs
end Go.Proofs.Ytmjodcackmjllaa
