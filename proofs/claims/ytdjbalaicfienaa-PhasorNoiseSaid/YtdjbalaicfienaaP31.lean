/- The law behind PhasorNoise: a signal with noise of up to an eighth of its strength. -/
import Derived.Test.YtdjbalaicfienaaP28
import Derived.Test.YtdjbalaicfienaaP24
namespace Go.Proofs.Ytdjbalaicfienaa
open Go.RowKit
set_option linter.unusedVariables false
set_option linter.unusedSimpArgs false
def U16s (w : World) (a : Option Addr) (n cap : Nat) (l : List Nat) : Prop := n ≤ cap ∧ cap ≤ 9223372036854775807 ∧ (∀ v ∈ l, v < 65536) ∧ Row w .u16 a n l
def inM (m : Int) (s : Smp) : Prop := -m ≤ s.i ∧ s.i ≤ m ∧ -m ≤ s.q ∧ s.q ≤ m
def noisy (es ns : List Smp) : List Smp := (List.range es.length).map fun j => sm (es.getD j ⟨0, 0⟩) (ns.getD j ⟨0, 0⟩)
theorem noisy_len (es ns : List Smp) : (noisy es ns).length = es.length := by simp [noisy]
theorem noisy_get (es ns : List Smp) (j : Nat) (h : j < (noisy es ns).length) : (noisy es ns)[j] = sm (es.getD j ⟨0, 0⟩) (ns.getD j ⟨0, 0⟩) := by simp [noisy]
theorem noisy_getD (es ns : List Smp) (j : Nat) (h : j < es.length) : (noisy es ns).getD j ⟨0, 0⟩ = sm (es.getD j ⟨0, 0⟩) (ns.getD j ⟨0, 0⟩) := by
  rw [List.getD_eq_getElem?_getD, List.getElem?_eq_getElem (by rw [noisy_len]; exact h)]
  exact noisy_get es ns j _
theorem getD_inM (ns : List Smp) (m : Int) (h : ∀ s ∈ ns, inM m s) (hm : 0 ≤ m) (j : Nat) : inM m (ns.getD j ⟨0, 0⟩) := by
  by_cases hj : j < ns.length
  · rw [List.getD_eq_getElem?_getD, List.getElem?_eq_getElem hj]
    exact h _ (List.getElem_mem _)
  · rw [List.getD_eq_getElem?_getD, List.getElem?_eq_none (by omega)]
    exact ⟨by simp; omega, hm, by simp; omega, hm⟩
theorem addRes_two (a b : Option Addr) (c d : Nat) (es ns : List Smp) (hl : ns.length = es.length) (h1 : allB es = true) (h2 : allB ns = true) (h3 : allB (noisy es ns) = true) : addRes [⟨a, c, es⟩, ⟨b, d, ns⟩] = (noisy es ns, 0) := by
  have e : accS [⟨a, c, es⟩, ⟨b, d, ns⟩] 2 0 (longTo [⟨a, c, es⟩, ⟨b, d, ns⟩] 2) = noisy es ns := by
    have hL : longTo [⟨a, c, es⟩, ⟨b, d, ns⟩] 2 = es.length := by simp [longTo, rowOf, hl]
    rw [hL]
    unfold accS noisy
    apply List.map_congr_left
    intro j _
    rw [if_neg (Nat.not_lt_zero _)]
    simp [colTo, rowOf, sm]
  rw [addRes_yes _ (by simp [allRs, h1, h2])]
  show cond (allB (accS _ 2 0 (longTo _ 2))) (accS _ 2 0 (longTo _ 2), 0) ([], 31) = _
  rw [e, h3]
  rfl
/- the head of the signal -/
theorem enc_pre (bs : List Bool) (amp : Int) (j : Nat) (hj : j < 8) : (encS bs amp).getD j ⟨0, 0⟩ = scaleS amp (preS.getD j ⟨0, 0⟩) := by
  have h : (encS bs amp).getD j ⟨0, 0⟩ = (encTo amp 8).getD j ⟨0, 0⟩ := by
    unfold encS
    rw [List.getD_eq_getElem?_getD, List.getElem?_append_left (by rw [encTo_len]; exact hj), ← List.getD_eq_getElem?_getD]
  rw [h]
  match j, hj with
  | 0, _ => rfl
  | 1, _ => rfl
  | 2, _ => rfl
  | 3, _ => rfl
  | 4, _ => rfl
  | 5, _ => rfl
  | 6, _ => rfl
  | 7, _ => rfl
theorem pre_one (j : Nat) (hj : j < 8) : ((preS.getD j ⟨0, 0⟩).i = 1 ∨ (preS.getD j ⟨0, 0⟩).i = -1) ∧ ((preS.getD j ⟨0, 0⟩).q = 1 ∨ (preS.getD j ⟨0, 0⟩).q = -1) := by
  match j, hj with
  | 0, _ => decide
  | 1, _ => decide
  | 2, _ => decide
  | 3, _ => decide
  | 4, _ => decide
  | 5, _ => decide
  | 6, _ => decide
  | 7, _ => decide
theorem mprod_noise (p n : Smp) (amp m : Int) (hi : p.i = 1 ∨ p.i = -1) (hq : p.q = 1 ∨ p.q = -1) (hn : inM m n) :
    2 * (amp - m) ≤ (mprod (sm (scaleS amp p) n) p).i ∧ -(2 * m) ≤ (mprod (sm (scaleS amp p) n) p).q ∧ (mprod (sm (scaleS amp p) n) p).q ≤ 2 * m := by
  obtain ⟨pi, pq⟩ := p
  obtain ⟨ni, nq⟩ := n
  simp only [inM] at hi hq hn
  simp only [mprod, sm, scaleS]
  rcases hi with rfl | rfl <;> rcases hq with rfl | rfl <;> refine ⟨?_, ?_, ?_⟩ <;> omega
theorem sq_le (x B : Int) (h1 : -B ≤ x) (h2 : x ≤ B) : x * x ≤ B * B := by
  have h : x.natAbs ≤ B.natAbs := by omega
  have := Nat.mul_le_mul h h
  have e1 := Int.natAbs_mul_self (a := x)
  have e2 := Int.natAbs_mul_self (a := B)
  omega
theorem sq_ge (x A : Int) (hA : 0 ≤ A) (h : A ≤ x ∨ x ≤ -A) : A * A ≤ x * x := by
  have h : A.natAbs ≤ x.natAbs := by omega
  have := Nat.mul_le_mul h h
  have e1 := Int.natAbs_mul_self (a := x)
  have e2 := Int.natAbs_mul_self (a := A)
  omega
theorem pw_noise (p n : Smp) (amp m : Int) (hi : p.i = 1 ∨ p.i = -1) (hq : p.q = 1 ∨ p.q = -1) (hn : inM m n) (hm : 0 ≤ m) (hma : m < amp) :
    1 ≤ pw (sm (scaleS amp p) n) ∧ pw (sm (scaleS amp p) n) ≤ 2 * ((amp + m) * (amp + m)) := by
  obtain ⟨pi, pq⟩ := p
  obtain ⟨ni, nq⟩ := n
  simp only [inM] at hi hq hn
  simp only [pw, sm, scaleS]
  have a1 : (amp - m ≤ amp * pi + ni ∨ amp * pi + ni ≤ -(amp - m)) ∧ -(amp + m) ≤ amp * pi + ni ∧ amp * pi + ni ≤ amp + m := by
    rcases hi with rfl | rfl <;> refine ⟨?_, ?_, ?_⟩ <;> omega
  have a2 : (amp - m ≤ amp * pq + nq ∨ amp * pq + nq ≤ -(amp - m)) ∧ -(amp + m) ≤ amp * pq + nq ∧ amp * pq + nq ≤ amp + m := by
    rcases hq with rfl | rfl <;> refine ⟨?_, ?_, ?_⟩ <;> omega
  have b1 := sq_le _ _ a1.2.1 a1.2.2
  have b2 := sq_le _ _ a2.2.1 a2.2.2
  have g1 := sq_ge _ _ (by omega) a1.1
  have g2 := sq_ge _ _ (by omega) a2.1
  have g3 := amp_sq (amp - m) (by omega)
  omega
theorem corr_noise (bs : List Bool) (ns : List Smp) (amp m : Int) (ys : List Smp) (hy : ∀ j, j < 8 → ys.getD j ⟨0, 0⟩ = sm ((encS bs amp).getD j ⟨0, 0⟩) (ns.getD j ⟨0, 0⟩)) (hn : ∀ s ∈ ns, inM m s) (hm : 0 ≤ m) (hma : m < amp) :
    ∀ k : Nat, k ≤ 8 → (k : Int) * (2 * (amp - m)) ≤ (corrTo ys k).i ∧ -((k : Int) * (2 * m)) ≤ (corrTo ys k).q ∧ (corrTo ys k).q ≤ (k : Int) * (2 * m) ∧ (k : Int) ≤ powTo ys k ∧ powTo ys k ≤ (k : Int) * (2 * ((amp + m) * (amp + m)))
  | 0, _ => by simp [corrTo, powTo]
  | k + 1, hk => by
    obtain ⟨i1, i2, i3, i4, i5⟩ := corr_noise bs ns amp m ys hy hn hm hma k (by omega)
    obtain ⟨p1, p2⟩ := pre_one k (by omega)
    have hN := getD_inM ns m hn hm k
    have h1 := mprod_noise (preS.getD k ⟨0, 0⟩) (ns.getD k ⟨0, 0⟩) amp m p1 p2 hN
    have h2 := pw_noise (preS.getD k ⟨0, 0⟩) (ns.getD k ⟨0, 0⟩) amp m p1 p2 hN hm hma
    have e := hy k (by omega)
    rw [enc_pre bs amp k (by omega)] at e
    simp only [corrTo, powTo]
    rw [e]
    generalize (corrTo ys k).i = ci at *
    generalize (corrTo ys k).q = cq at *
    generalize powTo ys k = po at *
    have d1 : ((k + 1 : Nat) : Int) * (2 * (amp - m)) = (k : Int) * (2 * (amp - m)) + 2 * (amp - m) := by rw [Int.natCast_succ, Int.add_mul, Int.one_mul]
    have d2 : ((k + 1 : Nat) : Int) * (2 * m) = (k : Int) * (2 * m) + 2 * m := by rw [Int.natCast_succ, Int.add_mul, Int.one_mul]
    have d3 : ((k + 1 : Nat) : Int) * (2 * ((amp + m) * (amp + m))) = (k : Int) * (2 * ((amp + m) * (amp + m))) + 2 * ((amp + m) * (amp + m)) := by rw [Int.natCast_succ, Int.add_mul, Int.one_mul]
    rw [d1, d2, d3]
    refine ⟨?_, ?_, ?_, ?_, ?_⟩
    · exact Int.add_le_add i1 h1.1
    · have := h1.2.1; omega
    · have := h1.2.2; omega
    · have := h2.1; omega
    · exact Int.add_le_add i5 h2.2
theorem eighth (amp m : Int) (h0 : 0 ≤ m) (h8 : 8 * m ≤ amp) : (amp + m) * (amp + m) ≤ 2 * ((amp - m) * (amp - m)) := by
  obtain ⟨r, hr⟩ : ∃ r, r = amp - 8 * m := ⟨_, rfl⟩
  have hr0 : 0 ≤ r := by omega
  rw [show amp + m = 9 * m + r by omega, show amp - m = 7 * m + r by omega]
  have ex : ∀ K : Int, (K * m + r) * (K * m + r) = K * K * (m * m) + 2 * (K * (m * r)) + r * r := fun K => by
    rw [Int.add_mul, Int.mul_add, Int.mul_add, sq_lin, Int.mul_assoc K m r, Int.mul_comm r (K * m), Int.mul_assoc K m r]
    omega
  rw [ex 9, ex 7]
  have x1 := Int.mul_nonneg h0 h0
  have x2 := Int.mul_nonneg h0 hr0
  have x3 := Int.mul_nonneg hr0 hr0
  omega
theorem noise_match (bs : List Bool) (ns : List Smp) (amp m : Int) (h1 : 1 ≤ amp) (h0 : 0 ≤ m) (h8 : 8 * m ≤ amp) (hn : ∀ s ∈ ns, inM m s) (hall : allB (noisy (encS bs amp) ns) = true) :
    (matchRes (noisy (encS bs amp) ns) (0 : Nat)).2.2 = true ∧ quarterN (matchRes (noisy (encS bs amp) ns) (0 : Nat)).1 = 0 := by
  have hel := encS_len bs amp
  have hp : partS (noisy (encS bs amp) ns) 0 (0 + 8) = (noisy (encS bs amp) ns).take 8 := by simp [partS]
  have hy : ∀ j, j < 8 → ((noisy (encS bs amp) ns).take 8).getD j ⟨0, 0⟩ = sm ((encS bs amp).getD j ⟨0, 0⟩) (ns.getD j ⟨0, 0⟩) := fun j hj => by
    rw [← noisy_getD (encS bs amp) ns j (by omega), List.getD_eq_getElem?_getD, List.getD_eq_getElem?_getD, List.getElem?_take, if_pos hj]
  obtain ⟨c1, c2, c3, c4, c5⟩ := corr_noise bs ns amp m _ hy hn h0 (by omega) 8 (Nat.le_refl _)
  rw [matchRes_yes (noisy (encS bs amp) ns) 0 ((noisy (encS bs amp) ns).take 8) hp.symm (by rw [noisy_len]; omega) (by rw [← hp]; exact allB_part _ _ _ hall)]
  have h9 := eighth amp m h0 h8
  generalize corrTo ((noisy (encS bs amp) ns).take 8) 8 = C at *
  generalize powTo ((noisy (encS bs amp) ns).take 8) 8 = P at *
  obtain ⟨ci, cq⟩ := C
  simp only at c1 c2 c3
  have g1 := sq_ge ci (16 * (amp - m)) (by omega) (.inl (by omega))
  rw [sq_lin] at g1
  have g2 : 0 ≤ cq * cq := by
    have := sq_ge cq 0 (by omega) (by omega)
    simpa using this
  generalize (amp + m) * (amp + m) = B at *
  generalize (amp - m) * (amp - m) = A at *
  constructor
  · have k1 : 0 < P := by omega
    have k2 : 16 * P ≤ 2 * pw ⟨ci, cq⟩ := by unfold pw; simp only; omega
    show isB ⟨ci, cq⟩ P = true
    unfold isB
    rw [decide_eq_true k1, decide_eq_true k2]; rfl
  · simp only [quarterN]
    rw [decide_eq_true (show 0 < ci by omega), decide_eq_true (show (cq.natAbs : Int) ≤ ci.natAbs by omega)]
    rfl
end Go.Proofs.Ytdjbalaicfienaa
