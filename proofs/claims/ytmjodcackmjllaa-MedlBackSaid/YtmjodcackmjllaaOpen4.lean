/- An argument's reading opened, 4: a list of modes. -/
import Derived.Test.YtmjodcackmjllaaOpen2
import Derived.Test.YtmjodcackmjllaaM0
namespace Go.Proofs.Ytmjodcackmjllaa
open Go.ChangeShapes Go.WideShapes Go.ChangeAt Go.RowKit Go.Deep Go.Joins
set_option linter.unusedVariables false
set_option linter.unusedSimpArgs false
set_option maxRecDepth 100000
section
variable {H : Type} {enc : TypeId × Value → H} {w : World} {base : Nat} {held : Bool}
theorem cellsMode : Try.prog.cellsOf 71 = 3 := by kernel_rfl
theorem cellsMedl : Try.prog.cellsOf 25 = 8 := by kernel_rfl
theorem int_of_trodM {spare : Nat → Bool} {fuel : Nat} {c : Value} {y : DataW H × List MemPlace} (h : DataW.trod enc Try.prog w base spare held fuel 3 [c] = some y) :
    ∃ n : Int, c = .int .i64 n ∧ -9223372036854775808 ≤ n ∧ n ≤ 9223372036854775807 := by
  obtain ⟨n, hn, -, wf⟩ := DataW.trod_int Try.underlying3 h
  simp only [List.cons.injEq, and_true] at hn
  have hw : -9223372036854775808 ≤ n ∧ n ≤ 9223372036854775807 := by
    simpa [Lit.wf, IntKind.min, IntKind.max, IntKind.signed, IntKind.bits] using wf
  exact ⟨n, hn, hw.1, hw.2⟩
/-- a slice of numbers, by its cell -/
theorem ints_of_trod {spare : Nat → Bool} {fuel : Nat} {t e : TypeId} {c : Value} {y : DataW H × List MemPlace} (ht : Try.prog.underlying t = some (.slice e)) (he : Try.prog.underlying e = some (.int .i64)) (hce : Try.prog.cellsOf e = 1)
    (h : DataW.trod enc Try.prog w base spare held fuel t [c] = some y) : ∃ zs : List Int, Ints w c zs := by
  rcases open_ints ht he hce h with ⟨hcs, -⟩ | ⟨x, len, cap, zs, hcs, -, hl, hm, hz, -, hcell, hwz⟩
  · simp only [List.cons.injEq, and_true] at hcs
    subst hcs
    exact ⟨[], ⟨none, 0, rfl, Nat.le_refl _, by decide, RowV.nil _ _⟩⟩
  · simp only [List.cons.injEq, and_true] at hcs
    subst hcs
    have hzl : len ≤ zs.length := by rw [hz]; split <;> omega
    have htl : (zs.take len).length = len := by simp; omega
    refine ⟨zs.take len, ⟨some x, cap, by rw [htl], by omega, by unfold maxLen at hm; omega, by rw [htl]; simp; omega, fun i hi => ?_⟩⟩
    rw [htl] at hi
    obtain ⟨b, off, rfl, hc⟩ := cell_spot (V := fun i => .int .i64 (zs.getD i 0)) (n := zs.length) hcell (by omega)
    refine ⟨b, off, rfl, ?_⟩
    rw [hc i (by omega)]
    simp [List.getElem?_take, hi, List.getElem?_eq_getElem (show i < zs.length by omega), List.getD_eq_getElem?_getD]
/-- a slice of truths, by its cell -/
theorem bools_of_trod {fuel : Nat} {c : Value} {y : DataW H × List MemPlace} (h : DataW.trod enc Try.prog w base (fun _ => true) held fuel 22 [c] = some y) : ∃ bs : List Bool, Bools w c bs := by
  rcases open_bools Try.underlying22 Try.underlying4 cellsBool h with ⟨hcs, -⟩ | ⟨x, len, cap, B, hcs, -, hl, hm, -, hcell⟩
  · simp only [List.cons.injEq, and_true] at hcs
    subst hcs
    exact ⟨[], ⟨none, 0, rfl, Nat.le_refl _, by decide, RowV.nil _ _⟩⟩
  · simp only [List.cons.injEq, and_true] at hcs
    subst hcs
    refine ⟨(List.range len).map B, ⟨some x, cap, by simp, by simpa using hl, by unfold maxLen at hm; omega, by simp, fun i hi => ?_⟩⟩
    have hi' : i < len := by simpa using hi
    obtain ⟨b, off, rfl, hc⟩ := cell_spot (V := fun i => .bool (B i)) (n := cap) hcell (by omega)
    refine ⟨b, off, rfl, ?_⟩
    rw [hc i (by omega)]
    simp [hi']
theorem cells_three {a : Addr} {cs : List Value} (h : w.cells? base a 3 = some cs) : ∃ c0 c1 c2, cs = [c0, c1, c2] ∧ w.cell? a = some c0 ∧ w.cell? (a.add 1) = some c1 ∧ w.cell? (a.add 2) = some c2 := by
  unfold World.cells? at h
  split at h
  · simp only [List.range_succ, List.range_zero, List.nil_append, List.cons_append, List.mapM_cons, List.mapM_nil] at h
    cases h0 : w.cell? (a.add 0) with
    | none => simp [h0] at h
    | some c0 =>
      cases h1 : w.cell? (a.add 1) with
      | none => simp [h0, h1] at h
      | some c1 =>
        cases h2 : w.cell? (a.add 2) with
        | none => simp [h0, h1, h2] at h
        | some c2 =>
          simp [h0, h1, h2] at h
          subst h
          exact ⟨c0, c1, c2, rfl, by simpa [Addr.add] using h0, rfl, rfl⟩
  · cases h
/-- a mode, by its three cells -/
theorem mode_of_trod {fuel : Nat} {c0 c1 c2 : Value} {y : DataW H × List MemPlace} (h : DataW.trod enc Try.prog w base (fun _ => true) held fuel 71 [c0, c1, c2] = some y) :
    ∃ x : RM, x.dv = c0 ∧ x.ev = c1 ∧ x.nv = c2 ∧ x.In w := by
  obtain ⟨xs, n, _, hx, _, hlen, hg⟩ := DataW.trod_struct Try.underlying71 h
  have g0 := hg 0 _ rfl
  have g1 := hg 1 _ rfl
  have g2 := hg 2 _ rfl
  match xs, hlen with
  | [y0, y1, y2], _ =>
    obtain ⟨ds, hd⟩ := ints_of_trod (c := c0) (y := y0) Try.underlying34 Try.underlying3 cellsInt g0
    obtain ⟨es, he⟩ := bools_of_trod (c := c1) (y := y1) g1
    obtain ⟨ns, hn⟩ := bools_of_trod (c := c2) (y := y2) g2
    exact ⟨⟨c0, c1, c2, ds, es, ns⟩, rfl, rfl, rfl, hd, he, hn⟩
def RM.zero : RM := ⟨.slice none 0 0, .slice none 0 0, .slice none 0 0, [], [], []⟩
/-- a list of modes, by its cell -/
theorem modes_of_trod {fuel : Nat} {c : Value} {y : DataW H × List MemPlace} (h : DataW.trod enc Try.prog w base (fun _ => true) held fuel 23 [c] = some y) :
    ∃ a n cap xs, c = .slice a n cap ∧ RMs w a n cap xs := by
  rcases open_slice Try.underlying23 h with ⟨hcs, -⟩ | ⟨x, len, cap, m, n, D, Pl, hcs, -, hl, hm, hmm, -, hel⟩
  · simp only [List.cons.injEq, and_true] at hcs
    subst hcs
    exact ⟨none, 0, 0, [], rfl, ⟨rfl, by decide, by decide, fun x hx => (by cases hx), fun i hi => absurd hi (by simp)⟩⟩
  · simp only [List.cons.injEq, and_true] at hcs
    subst hcs
    have hml : len ≤ m := by rw [hmm]; split <;> omega
    rw [cellsMode] at hel
    have key : ∀ i, i < len → ∃ y : RM, y.In w ∧ ∃ b off, x = ⟨b, off, none⟩ ∧ w.cell? ⟨b, off + i * 3, none⟩ = some y.dv ∧ w.cell? ⟨b, off + i * 3 + 1, none⟩ = some y.ev ∧ w.cell? ⟨b, off + i * 3 + 2, none⟩ = some y.nv := by
      intro i hi
      obtain ⟨cs', h1, h2⟩ := hel i (by omega)
      obtain ⟨c0, c1, c2, rfl, hc0, hc1, hc2⟩ := cells_three h1
      obtain ⟨y, rfl, rfl, rfl, hy⟩ := mode_of_trod h2
      obtain ⟨b, off, hx⟩ := spot_none hc0
      refine ⟨y, hy, ?_⟩
      obtain ⟨xb, xo, xs⟩ := x
      by_cases hi0 : i = 0
      · subst hi0
        simp only [Addr.add, Nat.zero_mul, if_true, Addr.mk.injEq] at hx hc0 hc1 hc2
        obtain ⟨rfl, rfl, rfl⟩ := hx
        exact ⟨xb, xo, rfl, by simpa using hc0, by simpa [Addr.add] using hc1, by simpa [Addr.add] using hc2⟩
      · have hne : ¬ i * 3 = 0 := by omega
        simp only [Addr.add, hne, if_false, Addr.mk.injEq] at hx hc0 hc1 hc2
        have h00 := hel 0 (by omega)
        obtain ⟨cs0, k1, k2⟩ := h00
        obtain ⟨d0, d1, d2, rfl, hd0, hd1, hd2⟩ := cells_three k1
        simp only [Addr.add, Nat.zero_mul, if_true] at hd0
        obtain ⟨b', off', hx'⟩ := spot_none hd0
        simp only [Addr.mk.injEq] at hx'
        obtain ⟨rfl, rfl, rfl⟩ := hx'
        exact ⟨xb, xo, rfl, hc0, by simpa using hc1, by simpa using hc2⟩
    refine ⟨some x, len, cap, (List.range len).map fun i => if h : i < len then Classical.choose (key i h) else RM.zero, rfl, ⟨by simp, hl, by unfold maxLen at hm; omega, fun y hy => ?_, fun i hi => ?_⟩⟩
    · simp only [List.mem_map, List.mem_range] at hy
      obtain ⟨i, hi, rfl⟩ := hy
      rw [dif_pos hi]
      exact (Classical.choose_spec (key i hi)).1
    · have hi' : i < len := by simpa using hi
      have hs := (Classical.choose_spec (key i hi')).2
      obtain ⟨b, off, h1, h2, h3, h4⟩ := hs
      refine ⟨b, off, by rw [h1], ?_, ?_, ?_⟩
      · simpa [hi'] using h2
      · simpa [hi'] using h3
      · simpa [hi'] using h4
theorem open_medl {r : Reach} {b0 : Nat} {v : Value} {d : DataW H} {p : List MemPlace} (hv : Value.okWide Try.prog w r b0 25 v) (h : DataW.Trod enc Try.prog w base (fun _ => true) held 25 v d p) :
    ∃ m : RMedl, v = m.val ∧ m.In w := by
  obtain ⟨cs, rfl, hsz⟩ := okWide_struct Try.underlying25 hv
  have h8 := hsz.trans cellsMedl
  obtain ⟨l⟩ := cs
  match l, h8 with
  | [c0, c1, c2, c3, c4, c5, c6, c7], _ =>
    obtain ⟨fuel, hf⟩ := h
    obtain ⟨xs, n, _, hx, _, hlen, hg⟩ := DataW.trod_struct Try.underlying25 hf
    have g0 := hg 0 _ rfl
    have g1 := hg 1 _ rfl
    have g2 := hg 2 _ rfl
    have g3 := hg 3 _ rfl
    have g4 := hg 4 _ rfl
    have g5 := hg 5 _ rfl
    have g6 := hg 6 _ rfl
    have g7 := hg 7 _ rfl
    match xs, hlen with
    | [y0, y1, y2, y3, y4, y5, y6, y7], _ =>
      obtain ⟨a0, rfl, -⟩ := int_of_trodM (c := c0) (y := y0) g0
      obtain ⟨a1, rfl, -⟩ := int_of_trodM (c := c1) (y := y1) g1
      obtain ⟨a2, rfl, -⟩ := int_of_trodM (c := c2) (y := y2) g2
      obtain ⟨a3, rfl, -⟩ := int_of_trodM (c := c3) (y := y3) g3
      obtain ⟨a4, rfl, -⟩ := int_of_trodM (c := c4) (y := y4) g4
      obtain ⟨a5, rfl, -⟩ := int_of_trodM (c := c5) (y := y5) g5
      obtain ⟨bs, hb⟩ := bools_of_trod (c := c6) (y := y6) g6
      obtain ⟨a, n, cap, xs, rfl, hm⟩ := modes_of_trod (c := c7) (y := y7) g7
      exact ⟨⟨a0, a1, a2, a3, a4, a5, c6, bs, a, n, cap, xs⟩, rfl, hb, hm⟩
end
end Go.Proofs.Ytmjodcackmjllaa
