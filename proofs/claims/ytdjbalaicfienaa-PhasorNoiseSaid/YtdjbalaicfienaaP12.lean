/- Lists of lists of samples; few. -/
import Derived.Test.YtdjbalaicfienaaP11
namespace Go.Proofs.Ytdjbalaicfienaa
open Go.RowKit
set_option linter.unusedVariables false
set_option linter.unusedSimpArgs false
/-- a list of samples, as a value -/
structure RS where
  a : Option Addr
  cap : Nat
  xs : List Smp
abbrev RS.val (x : RS) : Value := .slice x.a x.xs.length x.cap
def RS.In (x : RS) (w : World) : Prop := SRow w x.a x.xs.length x.cap x.xs
theorem RS.In.keeps {x : RS} {w w' : World} (h : x.In w) (hk : Keeps w w') : x.In w' := SRow.keeps h hk
/-- a list of lists of samples -/
structure SRs (w : World) (a : Option Addr) (n cap : Nat) (ls : List RS) : Prop where
  len : ls.length = n
  hcap : n ≤ cap
  hmax : cap ≤ 9223372036854775807
  isIn : ∀ x ∈ ls, x.In w
  cell : ∀ i (h : i < ls.length), ∃ b off, a = some ⟨b, off, none⟩ ∧ w.cell? ⟨b, off + i, none⟩ = some (ls[i].val)
theorem SRs.keeps {w w' : World} {a : Option Addr} {n cap : Nat} {ls : List RS} (h : SRs w a n cap ls) (hk : Keeps w w') : SRs w' a n cap ls :=
  ⟨h.len, h.hcap, h.hmax, fun x hx => (h.isIn x hx).keeps hk, fun i hi => by
    obtain ⟨b, off, h1, h2⟩ := h.cell i hi
    exact ⟨b, off, h1, hk.later h2⟩⟩
theorem SRs.addr {w : World} {a : Option Addr} {n cap : Nat} {ls : List RS} (h : SRs w a n cap ls) (h0 : 0 < n) : ∃ b off, a = some ⟨b, off, none⟩ ∧ b < w.heap.size ∧
    ∀ i (hi : i < ls.length), w.cell? ⟨b, off + i, none⟩ = some (ls[i].val) := by
  have hl := h.len
  obtain ⟨b, off, hab, hc⟩ := h.cell 0 (by omega)
  refine ⟨b, off, hab, World.block_lt_of_cell? _ _ hc, fun i hi => ?_⟩
  obtain ⟨b', off', hab', h1⟩ := h.cell i hi
  rw [hab] at hab'
  simp only [Option.some.injEq, Addr.mk.injEq] at hab'
  obtain ⟨rfl, rfl, _⟩ := hab'
  exact h1
theorem SRs.one {w : World} {b : Nat} {a : Option Addr} {n cap : Nat} {xs : List Smp} (hx : SRow w a n cap xs) (hb : Box w b 52 #[.slice a n cap]) : SRs w (some ⟨b, 0, none⟩) 1 1 [⟨a, cap, xs⟩] := by
  have hl := hx.len
  subst hl
  refine ⟨rfl, Nat.le_refl _, by decide, fun x h => ?_, fun i hi => ?_⟩
  · simp only [List.mem_singleton] at h
    subst h
    exact hx
  · have : i = 0 := by simpa using hi
    subst this
    exact ⟨b, 0, rfl, hb.cell 0 _ rfl⟩
def fewB (ls : List RS) : Bool := (ls.take 50).all (fun x => decide (x.xs.length ≤ 5000)) && decide (ls.length ≤ 50)
theorem few_no (ls : List RS) (k : Nat) (hk : k < ls.length) (h5 : k < 50) (h : 5000 < ls[k].xs.length) : fewB ls = false := by
  unfold fewB
  rw [Bool.and_eq_false_iff]
  left
  rw [List.all_eq_false]
  refine ⟨ls[k], List.mem_take_iff_getElem.2 ⟨k, by omega, rfl⟩, by simp; omega⟩
theorem few_yes (ls : List RS) (h : ∀ k (hk : k < ls.length), k < 50 → ls[k].xs.length ≤ 5000) : fewB ls = decide (ls.length ≤ 50) := by
  unfold fewB
  have : ((ls.take 50).all fun x => decide (x.xs.length ≤ 5000)) = true := by
    rw [List.all_eq_true]
    intro x hx
    obtain ⟨k, hk, rfl⟩ := List.mem_take_iff_getElem.1 hx
    exact decide_eq_true (h k (by omega) (by omega))
  rw [this, Bool.true_and]
theorem fewB_iff (ls : List RS) : fewB ls = true → ls.length ≤ 50 ∧ ∀ x ∈ ls, x.xs.length ≤ 5000 := by
  intro h
  unfold fewB at h
  simp only [Bool.and_eq_true, decide_eq_true_eq] at h
  refine ⟨h.2, fun x hx => ?_⟩
  have := List.all_eq_true.1 h.1 x (by rw [List.take_of_length_le h.2]; exact hx)
  simpa using this
theorem elemRows : Try.prog.underlying 67 = some (.slice (Try.prog.elem 67)) := by kernel_rfl
theorem sub_rows (a : Option Addr) (n cap t : Nat) (u : Int) (hu : u = t) (h2 : t ≤ n) (hc : n ≤ cap) : ∀ w : World, (Instr.slice 67 (.slice a n cap) none (some (.int .i64 u)) none).run Try.prog w = .ok (.slice a t cap) w := by
  subst hu
  intro w
  rw [run_slice_h w 67 a n cap elemRows .i64 t (by omega) (by omega)]
  simp [go_sem, sliced, Addr.add]
set_option maxRecDepth 100000 in
set_option maxHeartbeats 2000000 in
theorem few_any (a : Option Addr) (n cap : Nat) (ls : List RS) (w : World) (hx : SRs w a n cap ls) :
    Calls Try.prog 45 #[.slice a n cap] w fun e w' => e = .returned (.bool (fewB ls)) ∧ w' = w := by
  have HX := Lib.hid hx
  have hlen := hx.len
  have hcap := hx.hcap
  have hmax := hx.hmax
  subst hlen
  have HNO := Lib.hid (few_no ls)
  have HYES := Lib.hid (few_yes ls)
  obtain ⟨R, hR⟩ : ∃ R, R = fewB ls := ⟨_, rfl⟩
  rw [← hR] at HNO HYES ⊢
  obtain ⟨m, hm⟩ : ∃ m, m = min ls.length 50 := ⟨_, rfl⟩
  have hmin : (if (50 : Int) < (ls.length : Int) then 50 else (ls.length : Int)) = m := by split <;> omega
  have hm1 : m ≤ ls.length := by omega
  have hm2 : m ≤ 50 := by omega
  have HM := Lib.hid hm
  have e1 := sub_rows a ls.length cap m (m : Int) rfl hm1 hcap
  clear hx hR hm
  go_enter Try.func45, Try.ntmps45
  go_wp2_with fail
  clear e1 hmin
  go_loopw [11] (fun i wr => ∃ k : Nat, k ≤ m ∧ i = .int .i64 k ∧ Hid (∀ j (hj : j < ls.length), j < k → ls[j].xs.length ≤ 5000) ∧ wr = w) (fun i _ => m - (intOf i).toNat)
  case atStart => exact ⟨0, by omega, rfl, Lib.hid (fun j _ h => absurd h (by omega)), rfl⟩
  case round =>
    obtain ⟨k, hk, rfl, HC, rfl⟩ := hrel
    by_cases hlt : k < m
    · obtain ⟨b, off, rfl, hbl, hcell⟩ := HX.out.addr (by omega)
      have hc := hcell k (by omega)
      have HC2 := Lib.hid (HNO.out k (by omega) (by omega))
      have HC3 : Hid (ls[k].xs.length ≤ 5000 → ∀ j (hj : j < ls.length), j < k + 1 → ls[j].xs.length ≤ 5000) := Lib.hid (by
        intro h j hj hjk
        by_cases hjk' : j = k
        · subst hjk'; exact h
        · exact HC.out j hj (by omega))
      obtain ⟨x, hx⟩ : ∃ x, x = ls[k]'(by omega) := ⟨_, rfl⟩
      rw [← hx] at hc HC2 HC3
      obtain ⟨xa, xc, xx⟩ := x
      simp only [RS.val] at hc HC2 HC3
      obtain ⟨L, hL⟩ : ∃ L, L = xx.length := ⟨_, rfl⟩
      rw [← hL] at hc HC2 HC3
      clear hcell HC hx hL
      by_cases h5 : 5000 < L
      · have d1 : decide ((5000 : Int) < (L : Int)) = true := decide_eq_true (by omega)
        have HR := Lib.hid (HC2.out h5)
        go_wp2_with fail
        go_ret
        exact ⟨by rw [HR.out]; rfl, rfl⟩
      · have d1 : decide ((5000 : Int) < (L : Int)) = false := decide_eq_false (by omega)
        have HQ := Lib.hid (HC3.out (by omega))
        clear HC2 HC3
        go_wp2_with fail
        go_roundw
        case rel => exact ⟨k + 1, by omega, by go_num, HQ, trivial⟩
        case measure => simp [intOf]; omega
    · obtain rfl : k = m := by omega
      have HR := Lib.hid (HYES.out (fun j hj h5 => HC.out j hj (by have := HM.out; omega)))
      go_wp2_with fail
      go_ret
      refine ⟨?_, rfl⟩
      rw [HR.out]
      have hd50 : decide ((ls.length : Int) ≤ 50) = decide (ls.length ≤ 50) := decide_eq_decide.2 (by omega)
      rw [← hd50]
      rfl
/- turns -/
theorem qOf_emod (q : Int) : (qOf q : Int) = q % 4 := by
  obtain ⟨k, hk, hq, hm⟩ := qOf_cases q
  rw [hq]
  have h1 := Int.mul_tdiv_add_tmod q 4
  have h2 := Int.tmod_lt_of_pos q (show (0 : Int) < 4 by decide)
  have h3 := Int.lt_tmod_of_pos q (show (0 : Int) < 4 by decide)
  rw [Int.tmod_eq_emod_of_nonneg (show (0 : Int) ≤ q.tmod 4 + 4 by omega)] at hm
  omega
theorem turnS_mod (s : Smp) (j k : Nat) (hj : j < 4) (hk : k < 4) : turnS (turnS s j) k = turnS s ((j + k) % 4) := by
  obtain ⟨i, q⟩ := s
  have hj' : j = 0 ∨ j = 1 ∨ j = 2 ∨ j = 3 := by omega
  have hk' : k = 0 ∨ k = 1 ∨ k = 2 ∨ k = 3 := by omega
  rcases hj' with rfl | rfl | rfl | rfl <;> rcases hk' with rfl | rfl | rfl | rfl <;> simp [turnS]
theorem turnS_add (s : Smp) (a b : Int) : turnS (turnS s (qOf a)) (qOf b) = turnS s (qOf (a + b)) := by
  have h1 := qOf_emod a
  have h2 := qOf_emod b
  have h3 := qOf_emod (a + b)
  rw [turnS_mod s _ _ (by omega) (by omega)]
  congr 1
  omega
theorem mayB_turn (s : Smp) (k : Nat) (h : mayB s = true) : mayB (turnS s k) = true := by
  rw [mayB_iff] at h ⊢
  match k with
  | 0 => exact h
  | 1 => simp only [turnS]; omega
  | 2 => simp only [turnS]; omega
  | k + 3 => simp only [turnS]; omega
theorem allB_turn (xs : List Smp) (k : Nat) (h : allB xs = true) : allB (xs.map fun s => turnS s k) = true := by
  unfold allB at h ⊢
  rw [List.all_eq_true] at h ⊢
  intro x hx
  obtain ⟨s, hs, rfl⟩ := List.mem_map.1 hx
  exact mayB_turn s k (h s hs)
theorem mprod_turn (x p : Smp) (k : Nat) : mprod (turnS x k) p = turnS (mprod x p) k := by
  obtain ⟨i, q⟩ := x
  match k with
  | 0 => rfl
  | 1 => simp only [turnS, mprod, Smp.mk.injEq, Int.neg_mul]; omega
  | 2 => simp only [turnS, mprod, Smp.mk.injEq, Int.neg_mul]; constructor <;> omega
  | k + 3 => simp only [turnS, mprod, Smp.mk.injEq, Int.neg_mul]; constructor <;> omega
theorem turnS_sum (a b c d : Int) (k : Nat) : turnS ⟨a + c, b + d⟩ k = ⟨(turnS ⟨a, b⟩ k).i + (turnS ⟨c, d⟩ k).i, (turnS ⟨a, b⟩ k).q + (turnS ⟨c, d⟩ k).q⟩ := by
  match k with
  | 0 => rfl
  | 1 => simp only [turnS, Smp.mk.injEq, and_true, true_and]; first | omega | (constructor <;> omega)
  | 2 => simp only [turnS, Smp.mk.injEq, and_true, true_and]; first | omega | (constructor <;> omega)
  | k + 3 => simp only [turnS, Smp.mk.injEq, and_true, true_and]; first | omega | (constructor <;> omega)
theorem turnS_zero (k : Nat) : turnS ⟨0, 0⟩ k = ⟨0, 0⟩ := by
  match k with
  | 0 => rfl
  | 1 => rfl
  | 2 => rfl
  | k + 3 => rfl
theorem pw_turn (x : Smp) (k : Nat) : pw (turnS x k) = pw x := by
  obtain ⟨i, q⟩ := x
  match k with
  | 0 => rfl
  | 1 => simp only [turnS, pw, Int.neg_mul_neg]; omega
  | 2 => simp only [turnS, pw, Int.neg_mul_neg]
  | k + 3 => simp only [turnS, pw, Int.neg_mul_neg]; omega
theorem getD_turn (ys : List Smp) (k j : Nat) : (ys.map fun s => turnS s k).getD j ⟨0, 0⟩ = turnS (ys.getD j ⟨0, 0⟩) k := by
  rw [List.getD_eq_getElem?_getD, List.getElem?_map, List.getD_eq_getElem?_getD]
  cases ys[j]? with
  | none => exact (turnS_zero k).symm
  | some x => rfl
theorem corr_turn (ys : List Smp) (k : Nat) : ∀ j, corrTo (ys.map fun s => turnS s k) j = turnS (corrTo ys j) k
  | 0 => (turnS_zero k).symm
  | j + 1 => by
    simp only [corrTo]
    rw [corr_turn ys k j, getD_turn, mprod_turn, turnS_sum]
theorem pow_turn (ys : List Smp) (k : Nat) : ∀ j, powTo (ys.map fun s => turnS s k) j = powTo ys j
  | 0 => rfl
  | j + 1 => by
    simp only [powTo]
    rw [pow_turn ys k j, getD_turn, pw_turn]
theorem partS_turn (xs : List Smp) (k f t : Nat) : partS (xs.map fun s => turnS s k) f t = (partS xs f t).map fun s => turnS s k := by simp [partS, List.map_take, List.map_drop]
theorem allB_part (xs : List Smp) (f t : Nat) (h : allB xs = true) : allB (partS xs f t) = true := by
  unfold allB at h ⊢
  rw [List.all_eq_true] at h ⊢
  intro x hx
  exact h x (List.mem_of_mem_drop (List.mem_of_mem_take hx))
theorem match_turn (xs : List Smp) (k : Nat) (at_ : Int) (h : allB xs = true) : (matchRes (xs.map fun s => turnS s k) at_).2 = (matchRes xs at_).2 ∧ (matchRes (xs.map fun s => turnS s k) at_).1 = turnS (matchRes xs at_).1 k := by
  unfold matchRes
  rw [List.length_map, partS_turn, allB_part xs _ _ h, allB_turn _ k (allB_part xs _ _ h)]
  cases matchOk xs.length at_ && true
  · exact ⟨rfl, (turnS_zero k).symm⟩
  · simp only [cond_true]
    refine ⟨?_, corr_turn _ k 8⟩
    rw [pow_turn, corr_turn]
    unfold isB
    rw [pw_turn]
end Go.Proofs.Ytdjbalaicfienaa
