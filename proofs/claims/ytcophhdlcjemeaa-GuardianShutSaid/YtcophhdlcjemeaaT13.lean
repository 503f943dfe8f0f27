/- Layer 20, 8: few signals; what has passed passes again as it is. -/
import Derived.Test.YtcophhdlcjemeaaT12
namespace Go.Proofs.Ytcophhdlcjemeaa
open Go.RowKit
set_option linter.unusedVariables false
set_option linter.unusedSimpArgs false
set_option maxRecDepth 100000 in
theorem few20_any (a : Option Addr) (n cap : Nat) (w : World) (h1 : n ≤ cap) (h2 : cap ≤ 9223372036854775807) :
    Calls Try.prog 49 #[.slice a n cap] w fun e w' => e = .returned (.slice a (min n 60) cap) ∧ w' = w := by
  by_cases h : n ≤ 60
  · have hm : (if (60 : Int) < (n : Int) then (60 : Int) else (n : Int)) = (n : Int) := by split <;> omega
    have hmn : min n 60 = n := by omega
    rw [hmn]
    cases a with
    | none =>
      go_enter Try.func49, Try.ntmps49
      go_wp2_with fail
      go_ret
      exact ⟨rfl, rfl⟩
    | some x =>
      go_enter Try.func49, Try.ntmps49
      go_wp2_with fail
      go_ret
      exact ⟨rfl, rfl⟩
  · have hm : (if (60 : Int) < (n : Int) then (60 : Int) else (n : Int)) = (60 : Int) := by split <;> omega
    have hmn : min n 60 = 60 := by omega
    rw [hmn]
    cases a with
    | none =>
      go_enter Try.func49, Try.ntmps49
      go_wp2_with fail
      go_ret
      exact ⟨rfl, rfl⟩
    | some x =>
      go_enter Try.func49, Try.ntmps49
      go_wp2_with fail
      go_ret
      exact ⟨rfl, rfl⟩
theorem sigOk_p {r s : RSig} (h : r.p = s.p) : sigOk r = sigOk s := by
  unfold RSig.p at h
  simp only [Prod.mk.injEq] at h
  obtain ⟨h1, h2, h3, h4, h5, h6⟩ := h
  unfold sigOk
  rw [h1, h2, h3, h4, h5, h6]
theorem passP_p {o1 o2 : Int} {r s : RSig} (h : r.p = s.p) : passP o1 o2 r = passP o1 o2 s := by
  have hk := sigOk_p h
  have hp := h
  unfold RSig.p at h
  simp only [Prod.mk.injEq] at h
  obtain ⟨h1, h2, h3, h4, h5, h6⟩ := h
  unfold passP passOk
  rw [hk, hp, h1, h2, h3, h4]
theorem chk_zero : chk 0 [] = true := by decide
/-- what comes of Pass: as it was, or its span alone -/
theorem pass_cases {o1 o2 : Int} {s : RSig} {q : PSig} (h : passP o1 o2 s = some q) :
    sigOk s = true ∧ spanMeets s.f s.t o1 o2 = true ∧ ((spanIn s.f s.t o1 o2 = true ∧ q = s.p) ∨ (spanIn s.f s.t o1 o2 = false ∧ q = (s.fr, max s.f o1, min s.t o2, s.lv, 0, []))) := by
  unfold passP at h
  cases ho : passOk o1 o2 s
  · rw [ho] at h; cases h
  · rw [ho] at h
    unfold passOk at ho
    simp only [Bool.and_eq_true] at ho
    refine ⟨ho.1, ho.2.2, ?_⟩
    cases hi : spanIn s.f s.t o1 o2
    · rw [hi] at h
      simp only [cond_true, cond_false, Option.some.injEq] at h
      exact .inr ⟨rfl, h.symm⟩
    · rw [hi] at h
      simp only [cond_true, Option.some.injEq] at h
      exact .inl ⟨rfl, h.symm⟩
theorem spanIn_iff (a b c d : Int) : spanIn a b c d = true ↔ (0 ≤ a ∧ a ≤ b ∧ b ≤ 1099511627776) ∧ (0 ≤ c ∧ c ≤ d ∧ d ≤ 1099511627776) ∧ c ≤ a ∧ b ≤ d := by
  unfold spanIn
  simp only [Bool.and_eq_true, decide_eq_true_eq, spanOk_iff]
  constructor
  · rintro ⟨⟨h1, h2⟩, h3, h4⟩; exact ⟨h1, h2, h3, h4⟩
  · rintro ⟨h1, h2, h3, h4⟩; exact ⟨⟨h1, h2⟩, h3, h4⟩
/-- what has passed passes again as it is -/
theorem pass_again {o1 o2 : Int} {s r : RSig} (h : passP o1 o2 s = some r.p) : passP o1 o2 r = some r.p := by
  obtain ⟨h1, h2, h3⟩ := pass_cases h
  rcases h3 with ⟨h4, h5⟩ | ⟨h4, h5⟩
  · rw [passP_p h5, h, h5]
  · have hm := meets_num h2
    obtain ⟨fr, f, t, lv, n, a, len, cap, l⟩ := r
    unfold RSig.p at h5
    simp only [Prod.mk.injEq] at h5
    obtain ⟨rfl, rfl, rfl, rfl, rfl, rfl⟩ := h5
    unfold sigOk at h1
    simp only [Bool.and_eq_true, decide_eq_true_eq, spanOk_iff] at h1
    obtain ⟨h1, h6, h7⟩ := h1
    have e1 : spanIn (max s.f o1) (min s.t o2) o1 o2 = true := by rw [spanIn_iff]; omega
    have e2 : spanMeets (max s.f o1) (min s.t o2) o1 o2 = true := by
      unfold spanMeets
      simp only [Bool.and_eq_true, decide_eq_true_eq, spanOk_iff]
      omega
    have e3 : spanOk o1 o2 = true := by rw [spanOk_iff]; omega
    have e4 : sigOk ⟨s.fr, max s.f o1, min s.t o2, s.lv, ⟨0, a, len, cap, []⟩⟩ = true := by
      unfold sigOk
      simp only [Bool.and_eq_true, decide_eq_true_eq, spanOk_iff]
      exact ⟨h1, by omega, chk_zero⟩
    unfold passP passOk
    simp only [e1, e2, e3, e4, Bool.and_self, cond_true]
theorem list_again {o1 o2 : Int} : ∀ (ys : List RSig) (xs : List RSig), ys.map RSig.p = xs.filterMap (passP o1 o2) → ys.filterMap (passP o1 o2) = ys.map RSig.p := by
  intro ys xs h
  have hall : ∀ y ∈ ys, passP o1 o2 y = some y.p := by
    intro y hy
    have : y.p ∈ xs.filterMap (passP o1 o2) := by rw [← h]; exact List.mem_map_of_mem hy
    obtain ⟨x, -, hx⟩ := List.mem_filterMap.1 this
    exact pass_again hx
  clear h
  induction ys with
  | nil => rfl
  | cons y ys ih =>
    rw [List.filterMap_cons, hall y (by simp)]
    simp only [List.map_cons, List.cons.injEq, true_and]
    exact ih fun z hz => hall z (by simp [hz])
end Go.Proofs.Ytcophhdlcjemeaa
