/- An argument's reading opened, 8: an interface whose bytes lie within the reach. -/
import Derived.Test.YtcophhdlcjemeaaOpen7
import Derived.SizedLaws
namespace Go.Proofs.Ytcophhdlcjemeaa
open Go.ChangeShapes Go.WideShapes Go.ChangeAt Go.RowKit Go.Deep Go.Joins
set_option linter.unusedVariables false
set_option linter.unusedSimpArgs false
set_option maxRecDepth 100000
section
variable {H : Type} {enc : TypeId × Value → H} {w : World} {base : Nat} {held : Bool}
theorem weights_mem_all {P : Program} {e : TypeId} : ∀ {ds : List (DataW H)} {d : DataW H}, d ∈ ds → ∀ n ∈ d.weights P e, n ∈ DataW.weightsAll P e ds
  | d0 :: ds, d, hd, n, hn => by
    simp only [DataW.weightsAll, List.mem_append]
    rcases List.mem_cons.1 hd with rfl | h
    · exact .inl hn
    · exact .inr (weights_mem_all h n hn)
theorem bytesU8' : Try.prog.bytesOf 5 = 1 := by kernel_rfl
theorem y_sized {spare : Nat → Bool} {fuel : Nat} {x : RY} {y : DataW H × List MemPlace} (h : DataW.trod enc Try.prog w base spare held fuel 36 [.slice x.a x.len x.cap] = some y)
    (hz : ∀ n ∈ y.1.weights Try.prog 36, n ≤ reachBytes) : x.len ≤ 140737488355328 := by
  rcases open_slice Try.underlying36 h with ⟨hcs, -⟩ | ⟨a, len, cap, m, n, D, Pl, hcs, -, hl, hm, hmm, hx, -⟩
  · simp only [List.cons.injEq, Value.slice.injEq, and_true] at hcs
    omega
  · simp only [List.cons.injEq, Value.slice.injEq, and_true] at hcs
    obtain ⟨-, h2, -⟩ := hcs
    have := hz ((len + (m - len)) * Try.prog.bytesOf 5) (by rw [hx]; simp [DataW.weights, Try.underlying36])
    rw [bytesU8'] at this
    have hr := reachBytes_lt
    omega
theorem open_y_sized {spare : Nat → Bool} {r : Reach} {b0 : Nat} {v : Value} {d : DataW H} {p : List MemPlace} (hv : Value.okWide Try.prog w r b0 36 v) (h : DataW.Trod enc Try.prog w base spare held 36 v d p) (hz : ∀ n ∈ d.weights Try.prog 36, n ≤ reachBytes) :
    ∃ x : RY, v = .slice x.a x.len x.cap ∧ x.In w ∧ x.len ≤ 140737488355328 := by
  obtain ⟨a0, len, cap, rfl⟩ := okWide_slice Try.underlying36 hv
  obtain ⟨fuel, hf⟩ := h
  obtain ⟨x, hx, hi⟩ := y_of_trod (c := .slice a0 len cap) hf
  simp only [Value.slice.injEq] at hx
  obtain ⟨rfl, rfl, rfl⟩ := hx
  exact ⟨x, rfl, hi, y_sized (x := x) (y := (d, p)) hf hz⟩
theorem msg_sized {spare : Nat → Bool} {fuel : Nat} {c0 c1 : Value} {y : DataW H × List MemPlace} (h : DataW.trod enc Try.prog w base spare held fuel 53 [c0, c1] = some y) (hz : ∀ n ∈ y.1.weights Try.prog 53, n ≤ reachBytes) :
    ∃ m : RMsg, m.d.In w ∧ c0 = .slice m.d.a m.d.len m.d.cap ∧ c1 = .int .i64 m.age ∧ m.d.len ≤ 140737488355328 := by
  obtain ⟨xs, n, _, hx, _, hlen, hg⟩ := DataW.trod_struct Try.underlying53 h
  have g0 := hg 0 _ rfl
  have g1 := hg 1 _ rfl
  match xs, hlen with
  | [y0, y1], _ =>
    obtain ⟨x, rfl, hi⟩ := y_of_trod (c := c0) (y := y0) g0
    obtain ⟨a, rfl, -⟩ := int_of_trodY (c := c1) (y := y1) g1
    refine ⟨⟨x, a⟩, hi, rfl, rfl, y_sized (x := x) (y := y0) g0 (fun k hk => hz k ?_)⟩
    rw [hx]
    simp only [DataW.weights, Try.underlying53]
    exact DataW.weights_mem_each (j := 0) rfl rfl k hk
/-- a list of messages, by its cell -/
theorem msgs_sized {fuel : Nat} {c : Value} {y : DataW H × List MemPlace} (h : DataW.trod enc Try.prog w base (fun _ => true) held fuel 37 [c] = some y) (hz : ∀ n ∈ y.1.weights Try.prog 37, n ≤ reachBytes) :
    ∃ a n cap xs, c = .slice a n cap ∧ RMss w a n cap xs ∧ ∀ x ∈ xs, x.d.len ≤ 140737488355328 := by
  rcases open_slice Try.underlying37 h with ⟨hcs, -⟩ | ⟨x, len, cap, m, n, D, Pl, hcs, -, hl, hm, hmm, hx, hel⟩
  · simp only [List.cons.injEq, and_true] at hcs
    subst hcs
    exact ⟨none, 0, 0, [], rfl, RMss.nil w, fun x hx => by cases hx⟩
  · simp only [List.cons.injEq, and_true] at hcs
    subst hcs
    have hml : len ≤ m := by rw [hmm]; split <;> omega
    rw [cellsMsg] at hel
    by_cases h0 : len = 0
    · subst h0
      exact ⟨some x, 0, cap, [], rfl, ⟨rfl, hl, by unfold maxLen at hm; omega, fun x hx => (by cases hx), fun i hi => absurd hi (by simp)⟩, fun x hx => by cases hx⟩
    obtain ⟨b, off, rfl⟩ : ∃ b off, x = ⟨b, off, none⟩ := by
      obtain ⟨cs0, k1, -⟩ := hel 0 (by omega)
      obtain ⟨d0, d1, rfl, hd0, hd1⟩ := cells_two k1
      simp only [Addr.add, Nat.zero_mul, if_true] at hd0
      exact spot_none hd0
    have key : ∀ i, i < len → ∃ y : RMsg, y.d.In w ∧ w.cell? ⟨b, off + i * 2, none⟩ = some (.slice y.d.a y.d.len y.d.cap) ∧ w.cell? ⟨b, off + i * 2 + 1, none⟩ = some (.int .i64 y.age) ∧ y.d.len ≤ 140737488355328 := by
      intro i hi
      obtain ⟨cs', h1, h2⟩ := hel i (by omega)
      obtain ⟨c0, c1, rfl, hc0, hc1⟩ := cells_two h1
      obtain ⟨y', hy, rfl, rfl, h47⟩ := msg_sized h2 (fun k hk => hz k (by
        rw [hx]
        simp only [DataW.weights, Try.underlying37, List.mem_cons, List.mem_append]
        exact .inr (.inl (weights_mem_all (List.mem_map.2 ⟨i, List.mem_range.2 hi, rfl⟩) k hk))))
      rw [Addr.add_offY] at hc0 hc1
      rw [Addr.add_offY] at hc1
      exact ⟨y', hy, hc0, hc1, h47⟩
    refine ⟨some ⟨b, off, none⟩, len, cap, (List.range len).map fun i => if h : i < len then Classical.choose (key i h) else RMsg.zero, rfl, ⟨by simp, hl, by unfold maxLen at hm; omega, fun y hy => ?_, fun i hi => ?_⟩, fun y hy => ?_⟩
    · simp only [List.mem_map, List.mem_range] at hy
      obtain ⟨i, hi, rfl⟩ := hy
      rw [dif_pos hi]
      exact (Classical.choose_spec (key i hi)).1
    · have hi' : i < len := by simpa using hi
      obtain ⟨h1, h2, h3, -⟩ := Classical.choose_spec (key i hi')
      refine ⟨b, off, rfl, ?_, ?_⟩
      · simpa [hi'] using h2
      · simpa [hi'] using h3
    · simp only [List.mem_map, List.mem_range] at hy
      obtain ⟨i, hi, rfl⟩ := hy
      rw [dif_pos hi]
      exact (Classical.choose_spec (key i hi)).2.2.2
theorem open_cni_sized {r : Reach} {b0 : Nat} {v : Value} {d : DataW H} {p : List MemPlace} (hv : Value.okWide Try.prog w r b0 39 v) (h : DataW.Trod enc Try.prog w base (fun _ => true) held 39 v d p) (hz : ∀ n ∈ d.weights Try.prog 39, n ≤ reachBytes) :
    ∃ c : RCni, v = c.val ∧ c.In w ∧ c.o.len ≤ 140737488355328 ∧ ∀ x ∈ c.ms, x.d.len ≤ 140737488355328 := by
  obtain ⟨cs, rfl, hsz⟩ := okWide_struct Try.underlying39 hv
  have h5 := hsz.trans cellsCni
  obtain ⟨l⟩ := cs
  match l, h5 with
  | [c0, c1, c2, c3, c4], _ =>
    obtain ⟨fuel, hf⟩ := h
    obtain ⟨xs, n, _, hx, _, hlen, hg⟩ := DataW.trod_struct Try.underlying39 hf
    have g0 := hg 0 _ rfl
    have g1 := hg 1 _ rfl
    have g2 := hg 2 _ rfl
    have g3 := hg 3 _ rfl
    have g4 := hg 4 _ rfl
    match xs, hlen with
    | [y0, y1, y2, y3, y4], _ =>
      simp only [Prod.mk.injEq] at hx
      obtain ⟨a0, rfl, -⟩ := int_of_trodY (c := c0) (y := y0) g0
      obtain ⟨o, rfl, ho⟩ := y_of_trod (c := c1) (y := y1) g1
      have h1 := y_sized (x := o) (y := y1) g1 (fun k hk => hz k (by
        rw [hx.1]
        simp only [DataW.weights, Try.underlying39]
        exact DataW.weights_mem_each (j := 1) rfl rfl k hk))
      obtain ⟨a, n, cap, xs, rfl, hm, h2⟩ := msgs_sized (c := c2) (y := y2) g2 (fun k hk => hz k (by
        rw [hx.1]
        simp only [DataW.weights, Try.underlying39]
        exact DataW.weights_mem_each (j := 2) rfl rfl k hk))
      obtain ⟨a3, rfl, -⟩ := int_of_trodY (c := c3) (y := y3) g3
      obtain ⟨a4, rfl, -⟩ := int_of_trodY (c := c4) (y := y4) g4
      exact ⟨⟨a0, o, a, n, cap, xs, a3, a4⟩, rfl, ⟨ho, hm⟩, h1, h2⟩
end
end Go.Proofs.Ytcophhdlcjemeaa
