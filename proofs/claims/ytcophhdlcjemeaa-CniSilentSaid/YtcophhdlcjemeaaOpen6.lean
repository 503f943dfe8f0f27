/- An argument's reading opened, 6: a span, a list of signals. -/
import Derived.Test.YtcophhdlcjemeaaOpen5
import Derived.Test.YtcophhdlcjemeaaU1
namespace Go.Proofs.Ytcophhdlcjemeaa
open Go.ChangeShapes Go.WideShapes Go.ChangeAt Go.RowKit Go.Deep Go.Joins
set_option linter.unusedVariables false
set_option linter.unusedSimpArgs false
set_option maxRecDepth 100000
section
variable {H : Type} {enc : TypeId × Value → H} {w : World} {base : Nat} {held : Bool}
theorem cellsSpan : Try.prog.cellsOf 30 = 2 := by kernel_rfl
theorem cellsSig : Try.prog.cellsOf 73 = 6 := by kernel_rfl
theorem span_of_trod {spare : Nat → Bool} {fuel : Nat} {c0 c1 : Value} {y : DataW H × List MemPlace} (h : DataW.trod enc Try.prog w base spare held fuel 30 [c0, c1] = some y) : ∃ a b : Int, c0 = .int .i64 a ∧ c1 = .int .i64 b := by
  obtain ⟨xs, n, _, hx, _, hlen, hg⟩ := DataW.trod_struct Try.underlying30 h
  have g0 := hg 0 _ rfl
  have g1 := hg 1 _ rfl
  match xs, hlen with
  | [y0, y1], _ =>
    obtain ⟨a, rfl, -⟩ := int64_of_trod (c := c0) (y := y0) g0
    obtain ⟨b, rfl, -⟩ := int64_of_trod (c := c1) (y := y1) g1
    exact ⟨a, b, rfl, rfl⟩
theorem open_span {spare : Nat → Bool} {r : Reach} {b0 : Nat} {v : Value} {d : DataW H} {p : List MemPlace} (hv : Value.okWide Try.prog w r b0 30 v) (h : DataW.Trod enc Try.prog w base spare held 30 v d p) :
    ∃ a b : Int, v = .agg #[.int .i64 a, .int .i64 b] := by
  obtain ⟨cs, rfl, hsz⟩ := okWide_struct Try.underlying30 hv
  have h2 := hsz.trans cellsSpan
  obtain ⟨l⟩ := cs
  match l, h2 with
  | [c0, c1], _ =>
    obtain ⟨fuel, hf⟩ := h
    obtain ⟨a, b, rfl, rfl⟩ := span_of_trod hf
    exact ⟨a, b, rfl⟩
theorem sig_of_trod {fuel : Nat} {c0 c1 c2 c3 c4 c5 : Value} {y : DataW H × List MemPlace} (h : DataW.trod enc Try.prog w base (fun _ => true) held fuel 73 [c0, c1, c2, c3, c4, c5] = some y) :
    ∃ s : RSig, s.b.In w ∧ [c0, c1, c2, c3, c4, c5] = s.cells := by
  obtain ⟨xs, n, _, hx, _, hlen, hg⟩ := DataW.trod_struct Try.underlying73 h
  have g0 := hg 0 _ rfl
  have g1 := hg 1 _ rfl
  have g2 := hg 2 _ rfl
  have g3 := hg 3 _ rfl
  match xs, hlen with
  | [y0, y1, y2, y3], _ =>
    obtain ⟨a0, rfl, -⟩ := int_of_trodM (c := c0) (y := y0) g0
    obtain ⟨a1, a2, rfl, rfl⟩ := span_of_trod (c0 := c1) (c1 := c2) (y := y1) g1
    obtain ⟨a3, rfl, -⟩ := int_of_trodM (c := c3) (y := y2) g2
    obtain ⟨z0, z1, n', -, -, k0, k1⟩ := trod_struct2 Try.underlying69 (show DataW.trod enc Try.prog w base (fun _ => true) held n 69 [c4, c5] = some y3 from g3)
    rw [cellsInt] at k0
    rw [cellsSl] at k1
    obtain ⟨z, rfl, rfl, hz⟩ := bits_of_trod (by simpa using k0) (by simpa using k1)
    exact ⟨⟨a0, a1, a2, a3, z⟩, hz, rfl⟩
theorem cells_six {a : Addr} {cs : List Value} (h : w.cells? base a 6 = some cs) : cs.length = 6 ∧ ∀ j, j < 6 → w.cell? (a.add j) = cs[j]? := by
  unfold World.cells? at h
  split at h
  · simp only [List.range_succ, List.range_zero, List.nil_append, List.cons_append, List.mapM_cons, List.mapM_nil] at h
    cases h0 : w.cell? (a.add 0) with
    | none => simp [h0] at h
    | some c0 =>
    cases h1 : w.cell? (a.add 1) with
    | none => simp [h0, h1] at h
    | some c1 =>
    cases h2 : w.cell? (a.add 2) with
    | none => simp [h0, h1, h2] at h
    | some c2 =>
    cases h3 : w.cell? (a.add 3) with
    | none => simp [h0, h1, h2, h3] at h
    | some c3 =>
    cases h4 : w.cell? (a.add 4) with
    | none => simp [h0, h1, h2, h3, h4] at h
    | some c4 =>
    cases h5 : w.cell? (a.add 5) with
    | none => simp [h0, h1, h2, h3, h4, h5] at h
    | some c5 =>
      simp [h0, h1, h2, h3, h4, h5] at h
      subst h
      refine ⟨rfl, fun j hj => ?_⟩
      match j, hj with
      | 0, _ => exact h0
      | 1, _ => exact h1
      | 2, _ => exact h2
      | 3, _ => exact h3
      | 4, _ => exact h4
      | 5, _ => exact h5
  · cases h
theorem Addr.add_off (b off n : Nat) : (⟨b, off, none⟩ : Addr).add n = ⟨b, off + n, none⟩ := by
  unfold Addr.add
  split
  · subst_vars; rfl
  · rfl
/-- a list of signals, by its cell -/
theorem sigs_of_trod {fuel : Nat} {c : Value} {y : DataW H × List MemPlace} (h : DataW.trod enc Try.prog w base (fun _ => true) held fuel 81 [c] = some y) :
    ∃ a n cap xs, c = .slice a n cap ∧ RSs w a n cap xs := by
  rcases open_slice Try.underlying81 h with ⟨hcs, -⟩ | ⟨x, len, cap, m, n, D, Pl, hcs, -, hl, hm, hmm, -, hel⟩
  · simp only [List.cons.injEq, and_true] at hcs
    subst hcs
    exact ⟨none, 0, 0, [], rfl, ⟨rfl, by decide, by decide, fun x hx => (by cases hx), fun i hi => absurd hi (by simp)⟩⟩
  · simp only [List.cons.injEq, and_true] at hcs
    subst hcs
    have hml : len ≤ m := by rw [hmm]; split <;> omega
    rw [cellsSig] at hel
    by_cases h0 : len = 0
    · subst h0
      exact ⟨some x, 0, cap, [], rfl, ⟨rfl, hl, by unfold maxLen at hm; omega, fun x hx => (by cases hx), fun i hi => absurd hi (by simp)⟩⟩
    obtain ⟨b, off, rfl⟩ : ∃ b off, x = ⟨b, off, none⟩ := by
      obtain ⟨cs0, k1, -⟩ := hel 0 (by omega)
      obtain ⟨hl6, hc6⟩ := cells_six k1
      have h00 := hc6 0 (by decide)
      rw [List.getElem?_eq_getElem (by omega)] at h00
      simp only [Addr.add, Nat.zero_mul, if_true] at h00
      exact spot_none h00
    have key : ∀ i, i < len → ∃ y : RSig, y.b.In w ∧ ∀ j v, y.cells[j]? = some v → w.cell? ⟨b, off + i * 6 + j, none⟩ = some v := by
      intro i hi
      obtain ⟨cs', h1, h2⟩ := hel i (by omega)
      obtain ⟨hl6, hc6⟩ := cells_six h1
      match cs', hl6 with
      | [c0, c1, c2, c3, c4, c5], _ =>
        obtain ⟨y, hy, hcs⟩ := sig_of_trod h2
        refine ⟨y, hy, fun j v hj => ?_⟩
        have hj6 : j < 6 := by
          have := (List.getElem?_eq_some_iff.1 hj).1
          simpa [RSig.cells] using this
        have h6 := hc6 j hj6
        rw [Addr.add_off, Addr.add_off, hcs, hj] at h6
        exact h6
    refine ⟨some ⟨b, off, none⟩, len, cap, (List.range len).map fun i => if h : i < len then Classical.choose (key i h) else RSig.zero, rfl, ⟨by simp, hl, by unfold maxLen at hm; omega, fun y hy => ?_, fun i hi => ⟨b, off, rfl, fun j v hj => ?_⟩⟩⟩
    · simp only [List.mem_map, List.mem_range] at hy
      obtain ⟨i, hi, rfl⟩ := hy
      rw [dif_pos hi]
      exact (Classical.choose_spec (key i hi)).1
    · have hi' : i < len := by simpa using hi
      refine (Classical.choose_spec (key i hi')).2 j v ?_
      simpa [hi'] using hj
theorem open_sigs {r : Reach} {b0 : Nat} {v : Value} {d : DataW H} {p : List MemPlace} (hv : Value.okWide Try.prog w r b0 81 v) (h : DataW.Trod enc Try.prog w base (fun _ => true) held 81 v d p) :
    ∃ a n cap xs, v = .slice a n cap ∧ RSs w a n cap xs := by
  obtain ⟨a0, len, cap, rfl⟩ := okWide_slice Try.underlying81 hv
  obtain ⟨fuel, hf⟩ := h
  obtain ⟨a, n, cap', xs, hv', hx⟩ := sigs_of_trod (c := .slice a0 len cap) hf
  exact ⟨a, n, cap', xs, hv', hx⟩
end
end Go.Proofs.Ytcophhdlcjemeaa
