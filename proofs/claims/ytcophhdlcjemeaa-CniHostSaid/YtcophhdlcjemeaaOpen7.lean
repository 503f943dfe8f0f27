/- An argument's reading opened, 7: bytes, an interface. -/
import Derived.Test.YtcophhdlcjemeaaOpen
import Derived.Test.YtcophhdlcjemeaaOpen2
import Derived.Test.YtcophhdlcjemeaaK0
namespace Go.Proofs.Ytcophhdlcjemeaa
open Go.ChangeShapes Go.WideShapes Go.ChangeAt Go.RowKit Go.Deep Go.Joins
set_option linter.unusedVariables false
set_option linter.unusedSimpArgs false
set_option maxRecDepth 100000
section
variable {H : Type} {enc : TypeId × Value → H} {w : World} {base : Nat} {held : Bool}
theorem int_of_trodY {spare : Nat → Bool} {fuel : Nat} {c : Value} {y : DataW H × List MemPlace} (h : DataW.trod enc Try.prog w base spare held fuel 3 [c] = some y) :
    ∃ n : Int, c = .int .i64 n ∧ -9223372036854775808 ≤ n ∧ n ≤ 9223372036854775807 := by
  obtain ⟨n, hn, -, wf⟩ := DataW.trod_int Try.underlying3 h
  simp only [List.cons.injEq, and_true] at hn
  have hw : -9223372036854775808 ≤ n ∧ n ≤ 9223372036854775807 := by
    simpa [Lit.wf, IntKind.min, IntKind.max, IntKind.signed, IntKind.bits] using wf
  exact ⟨n, hn, hw.1, hw.2⟩
theorem Addr.add_offY (b off n : Nat) : (⟨b, off, none⟩ : Addr).add n = ⟨b, off + n, none⟩ := by
  unfold Addr.add
  split
  · subst_vars; rfl
  · rfl
theorem cellsMsg : Try.prog.cellsOf 53 = 2 := by kernel_rfl
theorem cellsCni : Try.prog.cellsOf 39 = 5 := by kernel_rfl
theorem y_of_trod {spare : Nat → Bool} {fuel : Nat} {c : Value} {y : DataW H × List MemPlace} (h : DataW.trod enc Try.prog w base spare held fuel 36 [c] = some y) : ∃ x : RY, c = .slice x.a x.len x.cap ∧ x.In w := by
  obtain ⟨a, len, cap, l, rfl, hc, hm, hb, hr⟩ := bytes_of_trod h
  exact ⟨⟨a, len, cap, l⟩, rfl, hc, hm, hb, hr⟩
theorem open_y {spare : Nat → Bool} {r : Reach} {b0 : Nat} {v : Value} {d : DataW H} {p : List MemPlace} (hv : Value.okWide Try.prog w r b0 36 v) (h : DataW.Trod enc Try.prog w base spare held 36 v d p) :
    ∃ x : RY, v = .slice x.a x.len x.cap ∧ x.In w := by
  obtain ⟨a0, len, cap, rfl⟩ := okWide_slice Try.underlying36 hv
  obtain ⟨fuel, hf⟩ := h
  exact y_of_trod (c := .slice a0 len cap) hf
theorem msg_of_trod {spare : Nat → Bool} {fuel : Nat} {c0 c1 : Value} {y : DataW H × List MemPlace} (h : DataW.trod enc Try.prog w base spare held fuel 53 [c0, c1] = some y) : ∃ m : RMsg, m.d.In w ∧ c0 = .slice m.d.a m.d.len m.d.cap ∧ c1 = .int .i64 m.age := by
  obtain ⟨xs, n, _, hx, _, hlen, hg⟩ := DataW.trod_struct Try.underlying53 h
  have g0 := hg 0 _ rfl
  have g1 := hg 1 _ rfl
  match xs, hlen with
  | [y0, y1], _ =>
    obtain ⟨x, rfl, hx⟩ := y_of_trod (c := c0) (y := y0) g0
    obtain ⟨a, rfl, -⟩ := int_of_trodY (c := c1) (y := y1) g1
    exact ⟨⟨x, a⟩, hx, rfl, rfl⟩
/-- a list of messages, by its cell -/
theorem msgs_of_trod {fuel : Nat} {c : Value} {y : DataW H × List MemPlace} (h : DataW.trod enc Try.prog w base (fun _ => true) held fuel 37 [c] = some y) :
    ∃ a n cap xs, c = .slice a n cap ∧ RMss w a n cap xs := by
  rcases open_slice Try.underlying37 h with ⟨hcs, -⟩ | ⟨x, len, cap, m, n, D, Pl, hcs, -, hl, hm, hmm, -, hel⟩
  · simp only [List.cons.injEq, and_true] at hcs
    subst hcs
    exact ⟨none, 0, 0, [], rfl, RMss.nil w⟩
  · simp only [List.cons.injEq, and_true] at hcs
    subst hcs
    have hml : len ≤ m := by rw [hmm]; split <;> omega
    rw [cellsMsg] at hel
    by_cases h0 : len = 0
    · subst h0
      exact ⟨some x, 0, cap, [], rfl, ⟨rfl, hl, by unfold maxLen at hm; omega, fun x hx => (by cases hx), fun i hi => absurd hi (by simp)⟩⟩
    obtain ⟨b, off, rfl⟩ : ∃ b off, x = ⟨b, off, none⟩ := by
      obtain ⟨cs0, k1, -⟩ := hel 0 (by omega)
      obtain ⟨d0, d1, rfl, hd0, hd1⟩ := cells_two k1
      simp only [Addr.add, Nat.zero_mul, if_true] at hd0
      exact spot_none hd0
    have key : ∀ i, i < len → ∃ y : RMsg, y.d.In w ∧ w.cell? ⟨b, off + i * 2, none⟩ = some (.slice y.d.a y.d.len y.d.cap) ∧ w.cell? ⟨b, off + i * 2 + 1, none⟩ = some (.int .i64 y.age) := by
      intro i hi
      obtain ⟨cs', h1, h2⟩ := hel i (by omega)
      obtain ⟨c0, c1, rfl, hc0, hc1⟩ := cells_two h1
      obtain ⟨y, hy, rfl, rfl⟩ := msg_of_trod h2
      rw [Addr.add_offY] at hc0 hc1
      rw [Addr.add_offY] at hc1
      exact ⟨y, hy, hc0, hc1⟩
    refine ⟨some ⟨b, off, none⟩, len, cap, (List.range len).map fun i => if h : i < len then Classical.choose (key i h) else RMsg.zero, rfl, ⟨by simp, hl, by unfold maxLen at hm; omega, fun y hy => ?_, fun i hi => ?_⟩⟩
    · simp only [List.mem_map, List.mem_range] at hy
      obtain ⟨i, hi, rfl⟩ := hy
      rw [dif_pos hi]
      exact (Classical.choose_spec (key i hi)).1
    · have hi' : i < len := by simpa using hi
      obtain ⟨h1, h2, h3⟩ := Classical.choose_spec (key i hi')
      refine ⟨b, off, rfl, ?_, ?_⟩
      · simpa [hi'] using h2
      · simpa [hi'] using h3
theorem open_cni {r : Reach} {b0 : Nat} {v : Value} {d : DataW H} {p : List MemPlace} (hv : Value.okWide Try.prog w r b0 39 v) (h : DataW.Trod enc Try.prog w base (fun _ => true) held 39 v d p) :
    ∃ c : RCni, v = c.val ∧ c.In w := by
  obtain ⟨cs, rfl, hsz⟩ := okWide_struct Try.underlying39 hv
  have h5 := hsz.trans cellsCni
  obtain ⟨l⟩ := cs
  match l, h5 with
  | [c0, c1, c2, c3, c4], _ =>
    obtain ⟨fuel, hf⟩ := h
    obtain ⟨xs, n, _, hx, _, hlen, hg⟩ := DataW.trod_struct Try.underlying39 hf
    have g0 := hg 0 _ rfl
    have g1 := hg 1 _ rfl
    have g2 := hg 2 _ rfl
    have g3 := hg 3 _ rfl
    have g4 := hg 4 _ rfl
    match xs, hlen with
    | [y0, y1, y2, y3, y4], _ =>
      obtain ⟨a0, rfl, -⟩ := int_of_trodY (c := c0) (y := y0) g0
      obtain ⟨o, rfl, ho⟩ := y_of_trod (c := c1) (y := y1) g1
      obtain ⟨a, n, cap, xs, rfl, hm⟩ := msgs_of_trod (c := c2) (y := y2) g2
      obtain ⟨a3, rfl, -⟩ := int_of_trodY (c := c3) (y := y3) g3
      obtain ⟨a4, rfl, -⟩ := int_of_trodY (c := c4) (y := y4) g4
      exact ⟨⟨a0, o, a, n, cap, xs, a3, a4⟩, rfl, ho, hm⟩
end
end Go.Proofs.Ytcophhdlcjemeaa
