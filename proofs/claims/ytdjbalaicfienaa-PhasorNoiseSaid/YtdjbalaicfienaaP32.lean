/- The law behind PhasorNoise, the rest: what is received. -/
import Derived.Test.YtdjbalaicfienaaP31
namespace Go.Proofs.Ytdjbalaicfienaa
open Go.RowKit
set_option linter.unusedVariables false
set_option linter.unusedSimpArgs false
theorem pairs_get (bs : List Bool) (amp : Int) (m j : Nat) (h : j < (pairsTo bs amp m).length) : ∃ a b, (pairsTo bs amp m)[j] = twoS a b amp := ⟨bs.getD (2 * j) false, bs.getD (2 * j + 1) false, by simp [pairsTo]⟩
theorem enc_two (bs : List Bool) (amp : Int) (j : Nat) (h : j < (encS bs amp).length) (h8 : 8 ≤ j) : ∃ a b, (encS bs amp)[j] = twoS a b amp := by
  have hel := encS_len bs amp
  by_cases h14 : j < 14
  · obtain ⟨k, rfl⟩ : ∃ k, j = 8 + k := ⟨j - 8, by omega⟩
    rw [encS_head bs amp k (by omega) h (by rw [pairsTo_len]; omega)]
    exact pairs_get _ _ _ _ _
  · obtain ⟨k, rfl⟩ : ∃ k, j = 14 + k := ⟨j - 14, by omega⟩
    rw [encS_rest bs amp k (by omega) h (by rw [pairsTo_len]; omega)]
    exact pairs_get _ _ _ _ _
theorem rd_noise (a b : Bool) (amp m : Int) (n : Smp) (hn : inM m n) (hma : m < amp) (h0 : 0 ≤ m) : rdOf (sm (twoS a b amp) n) 0 = rdOf (twoS a b amp) 0 := by
  obtain ⟨ni, nq⟩ := n
  simp only [inM] at hn
  rw [rd_two a b amp (by omega)]
  unfold rdOf
  simp only [turnS, sm, twoS]
  cases a <;> cases b <;> simp <;> omega
theorem enc_abs (bs : List Bool) (amp : Int) (h1 : 1 ≤ amp) (j : Nat) (hj : j < (encS bs amp).length) : inM amp ((encS bs amp).getD j ⟨0, 0⟩) := by
  by_cases h8 : j < 8
  · rw [enc_pre bs amp j h8]
    obtain ⟨p1, p2⟩ := pre_one j h8
    generalize preS.getD j ⟨0, 0⟩ = p at *
    obtain ⟨pi, pq⟩ := p
    simp only at p1 p2
    simp only [inM, scaleS]
    rcases p1 with rfl | rfl <;> rcases p2 with rfl | rfl <;> refine ⟨?_, ?_, ?_, ?_⟩ <;> omega
  · rw [List.getD_eq_getElem?_getD, List.getElem?_eq_getElem hj]
    obtain ⟨a, b, e⟩ := enc_two bs amp j hj (by omega)
    simp only [Option.getD_some]
    rw [e]
    simp only [inM, twoS]
    cases a <;> cases b <;> simp only [cond_true, cond_false] <;> refine ⟨?_, ?_, ?_, ?_⟩ <;> omega
theorem allB_noisy (bs : List Bool) (ns : List Smp) (amp m : Int) (h1 : 1 ≤ amp) (h2 : amp ≤ 65536) (h0 : 0 ≤ m) (h8 : 8 * m ≤ amp) (hn : ∀ s ∈ ns, inM m s) : allB (noisy (encS bs amp) ns) = true := by
  refine allB_yes _ fun j hj => ?_
  rw [noisy_get, mayB_iff]
  have e1 := enc_abs bs amp h1 j (by rw [noisy_len] at hj; exact hj)
  have e2 := getD_inM ns m hn h0 j
  generalize (encS bs amp).getD j ⟨0, 0⟩ = x at *
  generalize ns.getD j ⟨0, 0⟩ = y at *
  simp only [inM, sm] at *
  omega
theorem allB_inM (ns : List Smp) (m : Int) (h8 : m ≤ 262144) (hn : ∀ s ∈ ns, inM m s) : allB ns = true := by
  refine allB_yes _ fun j hj => ?_
  have := hn _ (List.getElem_mem hj)
  rw [mayB_iff]
  simp only [inM] at this
  omega
theorem noise_rec (bs : List Bool) (ns : List Smp) (amp m : Int) (h1 : 1 ≤ amp) (h2 : amp ≤ 65536) (h0 : 0 ≤ m) (h8 : 8 * m ≤ amp) (hn : ∀ s ∈ ns, inM m s) (hN : bs.length ≤ 4095) : recRes (noisy (encS bs amp) ns) = (bs, 0) := by
  have hall := allB_noisy bs ns amp m h1 h2 h0 h8 hn
  have hel := encS_len bs amp
  obtain ⟨g1, g2⟩ := noise_match bs ns amp m h1 h0 h8 hn hall
  unfold recRes
  rw [find_law (noisy (encS bs amp) ns) 0 (fun k hk => absurd hk (by omega)) g1 (by rw [noisy_len]; omega), g2]
  simp only
  refine dec_law bs amp _ 0 0 h1 hN (by rw [noisy_len]; omega) hall fun j hj hx h8' => ?_
  rw [show backK 0 = 0 by decide]
  have e : (noisy (encS bs amp) ns)[0 + j] = sm (encS bs amp)[j] (ns.getD j ⟨0, 0⟩) := by
    rw [noisy_get]
    simp only [Nat.zero_add]
    rw [List.getD_eq_getElem?_getD, List.getElem?_eq_getElem hj]
    rfl
  rw [e]
  obtain ⟨a, b, e2⟩ := enc_two bs amp j hj h8'
  rw [e2]
  exact rd_noise a b amp m _ (getD_inM ns m hn h0 j) (by omega) h0
/-- a value of noise -/
def nzOf (m : Int) (z : Nat) : Smp := ⟨(z : Int) % 256 * (2 * m + 1) / 256 - m, (z : Int) / 256 * (2 * m + 1) / 256 - m⟩
theorem nz_one (m x : Int) (h0 : 0 ≤ m) (x0 : 0 ≤ x) (x1 : x ≤ 255) : 0 ≤ x * (2 * m + 1) ∧ x * (2 * m + 1) ≤ 255 * (2 * m + 1) ∧ 0 ≤ x * (2 * m + 1) / 256 ∧ x * (2 * m + 1) / 256 ≤ 2 * m := by
  have a1 := Int.mul_nonneg x0 (show 0 ≤ 2 * m + 1 by omega)
  have a2 := Int.mul_le_mul_of_nonneg_right x1 (show 0 ≤ 2 * m + 1 by omega)
  generalize x * (2 * m + 1) = P at *
  refine ⟨a1, a2, ?_, ?_⟩ <;> omega
theorem nz_in (m : Int) (z : Nat) (h0 : 0 ≤ m) (hz : z < 65536) : inM m (nzOf m z) := by
  have a := nz_one m ((z : Int) % 256) h0 (by omega) (by omega)
  have b := nz_one m ((z : Int) / 256) h0 (by omega) (by omega)
  simp only [inM, nzOf]
  generalize (z : Int) % 256 * (2 * m + 1) / 256 = P at *
  generalize (z : Int) / 256 * (2 * m + 1) / 256 = Q at *
  refine ⟨?_, ?_, ?_, ?_⟩ <;> omega
/-- the noise, as far as the k-th sample -/
def nzTo (m : Int) (l : List Nat) (k : Nat) : List Smp := (List.range k).map fun j => nzOf m (l.getD (j % l.length) 0)
theorem nzTo_len (m : Int) (l : List Nat) (k : Nat) : (nzTo m l k).length = k := by simp [nzTo]
theorem nzTo_succ (m : Int) (l : List Nat) (k : Nat) : nzTo m l (k + 1) = nzTo m l k ++ [nzOf m (l.getD (k % l.length) 0)] := by simp [nzTo, List.range_succ]
theorem nzTo_in (m : Int) (l : List Nat) (k : Nat) (h0 : 0 ≤ m) (hl : ∀ v ∈ l, v < 65536) : ∀ s ∈ nzTo m l k, inM m s := by
  intro s hs
  obtain ⟨j, -, rfl⟩ := List.mem_map.1 hs
  refine nz_in m _ h0 ?_
  by_cases h : j % l.length < l.length
  · rw [List.getD_eq_getElem?_getD, List.getElem?_eq_getElem h]
    exact hl _ (List.getElem_mem _)
  · rw [List.getD_eq_getElem?_getD, List.getElem?_eq_none (by omega)]
    decide
end Go.Proofs.Ytdjbalaicfienaa
