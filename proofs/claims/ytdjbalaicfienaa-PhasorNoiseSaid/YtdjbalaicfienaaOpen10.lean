/- An argument's reading opened, 10: samples, lists of them, lists of lists. -/
import Derived.Test.YtdjbalaicfienaaOpen
import Derived.Test.YtdjbalaicfienaaOpen2
import Derived.Test.YtdjbalaicfienaaP12
namespace Go.Proofs.Ytdjbalaicfienaa
open Go.ChangeShapes Go.WideShapes Go.ChangeAt Go.RowKit Go.Deep Go.Joins
set_option linter.unusedVariables false
set_option linter.unusedSimpArgs false
set_option maxRecDepth 100000
section
variable {H : Type} {enc : TypeId × Value → H} {w : World} {base : Nat} {held : Bool}
theorem cellsSmp : Try.prog.cellsOf 63 = 2 := by kernel_rfl
theorem cellsSmps : Try.prog.cellsOf 52 = 1 := by kernel_rfl
theorem open_i8 {spare : Nat → Bool} {r : Reach} {b0 : Nat} {v : Value} {d : DataW H} {p : List MemPlace} (hv : Value.okWide Try.prog w r b0 59 v) (h : DataW.Trod enc Try.prog w base spare held 59 v d p) :
    ∃ z : Int, v = .int .i8 z ∧ -128 ≤ z ∧ z ≤ 127 := by
  obtain ⟨n, rfl, -, -, wf⟩ := open_int Try.underlying59 hv h
  have hw : -128 ≤ n ∧ n ≤ 127 := by
    simpa [Lit.wf, IntKind.min, IntKind.max, IntKind.signed, IntKind.bits] using wf
  exact ⟨n, rfl, hw.1, hw.2⟩
theorem cells_oneS {a : Addr} {cs : List Value} (h : w.cells? base a 1 = some cs) : ∃ c0, cs = [c0] ∧ w.cell? a = some c0 := by
  unfold World.cells? at h
  split at h
  · simp only [List.range_succ, List.range_zero, List.nil_append, List.mapM_cons, List.mapM_nil] at h
    cases h0 : w.cell? (a.add 0) with
    | none => simp [h0] at h
    | some c0 =>
      simp [h0] at h
      subst h
      exact ⟨c0, rfl, by simpa [Addr.add] using h0⟩
  · cases h
theorem add_offS (b off i : Nat) : (⟨b, off, none⟩ : Addr).add i = ⟨b, off + i, none⟩ := by
  unfold Addr.add; split <;> simp_all
theorem smps_of_trod {fuel : Nat} {c : Value} {y : DataW H × List MemPlace} (h : DataW.trod enc Try.prog w base (fun _ => true) held fuel 52 [c] = some y) : ∃ a n cap xs, c = .slice a n cap ∧ SRow w a n cap xs := by
  rcases open_slice Try.underlying52 h with ⟨hcs, -⟩ | ⟨x, len, cap, m, n, D, Pl, hcs, -, hl, hm, hmm, hx, hel⟩
  · simp only [List.cons.injEq, and_true] at hcs
    subst hcs
    exact ⟨none, 0, 0, [], rfl, SRow.nil w⟩
  · simp only [List.cons.injEq, and_true] at hcs
    subst hcs
    have hml : len ≤ m := by rw [hmm]; split <;> omega
    rw [cellsSmp] at hel
    by_cases h0 : len = 0
    · subst h0
      exact ⟨some x, 0, cap, [], rfl, rfl, hl, by unfold maxLen at hm; omega, fun i hi => absurd hi (by simp)⟩
    obtain ⟨b, off, rfl⟩ : ∃ b off, x = ⟨b, off, none⟩ := by
      obtain ⟨cs0, k1, -⟩ := hel 0 (by omega)
      obtain ⟨d0, d1, rfl, hd0, hd1⟩ := cells_two k1
      simp only [Addr.add, Nat.zero_mul, if_true] at hd0
      exact spot_none hd0
    have key : ∀ i, i < len → ∃ s : Smp, w.cell? ⟨b, off + i * 2, none⟩ = some (.int .i64 s.i) ∧ w.cell? ⟨b, off + i * 2 + 1, none⟩ = some (.int .i64 s.q) := by
      intro i hi
      obtain ⟨cs', h1, h2⟩ := hel i (by omega)
      obtain ⟨c0, c1, rfl, hc0, hc1⟩ := cells_two h1
      obtain ⟨y0, y1, n', -, -, g0, g1⟩ := trod_struct2 Try.underlying63 h2
      rw [cellsInt] at g0 g1
      obtain ⟨z0, e0, -, -⟩ := DataW.trod_int Try.underlying3 (by simpa using g0 : DataW.trod enc Try.prog w base _ held _ 3 [c0] = some y0)
      obtain ⟨z1, e1, -, -⟩ := DataW.trod_int Try.underlying3 (by simpa using g1 : DataW.trod enc Try.prog w base _ held _ 3 [c1] = some y1)
      simp only [List.cons.injEq, and_true] at e0 e1
      subst e0 e1
      rw [add_offS] at hc0 hc1
      rw [add_offS] at hc1
      exact ⟨⟨z0, z1⟩, hc0, hc1⟩
    refine ⟨some ⟨b, off, none⟩, len, cap, (List.range len).map fun i => if h : i < len then Classical.choose (key i h) else Smp.zero, rfl, by simp, hl, by unfold maxLen at hm; omega, fun i hi => ?_⟩
    have hi' : i < len := by simpa using hi
    obtain ⟨h1, h2⟩ := Classical.choose_spec (key i hi')
    refine ⟨b, off, rfl, ?_, ?_⟩
    · simpa [hi'] using h1
    · simpa [hi'] using h2
theorem open_smps {r : Reach} {b0 : Nat} {v : Value} {d : DataW H} {p : List MemPlace} (hv : Value.okWide Try.prog w r b0 52 v) (h : DataW.Trod enc Try.prog w base (fun _ => true) held 52 v d p) :
    ∃ a n cap xs, v = .slice a n cap ∧ SRow w a n cap xs := by
  obtain ⟨a0, len, cap, rfl⟩ := okWide_slice Try.underlying52 hv
  obtain ⟨fuel, hf⟩ := h
  exact smps_of_trod (c := .slice a0 len cap) hf
theorem open_rows {r : Reach} {b0 : Nat} {v : Value} {d : DataW H} {p : List MemPlace} (hv : Value.okWide Try.prog w r b0 67 v) (h : DataW.Trod enc Try.prog w base (fun _ => true) held 67 v d p) :
    ∃ a n cap ls, v = .slice a n cap ∧ SRs w a n cap ls := by
  obtain ⟨a0, len0, cap0, rfl⟩ := okWide_slice Try.underlying67 hv
  obtain ⟨fuel, hf⟩ := h
  rcases open_slice Try.underlying67 hf with ⟨hcs, -⟩ | ⟨x, len, cap, m, n, D, Pl, hcs, -, hl, hm, hmm, hx, hel⟩
  · simp [Value.cells] at hcs
    obtain ⟨rfl, rfl, rfl⟩ := hcs
    exact ⟨none, 0, 0, [], rfl, rfl, Nat.le_refl _, by decide, fun x hx => (by cases hx), fun i hi => absurd hi (by simp)⟩
  · simp [Value.cells] at hcs
    obtain ⟨rfl, rfl, rfl⟩ := hcs
    have hml : len0 ≤ m := by rw [hmm]; split <;> omega
    rw [cellsSmps] at hel
    by_cases h0 : len0 = 0
    · subst h0
      exact ⟨some x, 0, cap0, [], rfl, rfl, hl, by unfold maxLen at hm; omega, fun x hx => (by cases hx), fun i hi => absurd hi (by simp)⟩
    obtain ⟨b, off, rfl⟩ : ∃ b off, x = ⟨b, off, none⟩ := by
      obtain ⟨cs0, k1, -⟩ := hel 0 (by omega)
      obtain ⟨d0, rfl, hd0⟩ := cells_oneS k1
      simp only [Addr.add, Nat.zero_mul, if_true] at hd0
      exact spot_none hd0
    have key : ∀ i, i < len0 → ∃ s : RS, s.In w ∧ w.cell? ⟨b, off + i, none⟩ = some s.val := by
      intro i hi
      obtain ⟨cs', h1, h2⟩ := hel i (by omega)
      obtain ⟨c0, rfl, hc0⟩ := cells_oneS h1
      obtain ⟨a, n, c, xs, rfl, hr⟩ := smps_of_trod h2
      have hl := hr.len
      subst hl
      rw [add_offS, Nat.mul_one] at hc0
      exact ⟨⟨a, c, xs⟩, hr, hc0⟩
    refine ⟨some ⟨b, off, none⟩, len0, cap0, (List.range len0).map fun i => if h : i < len0 then Classical.choose (key i h) else ⟨none, 0, []⟩, rfl, by simp, hl, by unfold maxLen at hm; omega, fun y hy => ?_, fun i hi => ?_⟩
    · simp only [List.mem_map, List.mem_range] at hy
      obtain ⟨i, hi, rfl⟩ := hy
      rw [dif_pos hi]
      exact (Classical.choose_spec (key i hi)).1
    · have hi' : i < len0 := by simpa using hi
      have h1 := (Classical.choose_spec (key i hi')).2
      refine ⟨b, off, rfl, ?_⟩
      simpa [hi'] using h1
end
end Go.Proofs.Ytdjbalaicfienaa
