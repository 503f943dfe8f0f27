/- An argument's reading opened, 3: a state. -/
import Derived.Test.YtmjodcackmjllaaOpen2
import Derived.Test.YtmjodcackmjllaaC1
namespace Go.Proofs.Ytmjodcackmjllaa
open Go.ChangeShapes Go.WideShapes Go.ChangeAt Go.RowKit Go.Deep Go.Joins
set_option linter.unusedVariables false
set_option linter.unusedSimpArgs false
set_option maxRecDepth 100000
section
variable {H : Type} {enc : TypeId × Value → H} {w : World} {base : Nat} {spare : Nat → Bool} {held : Bool}
theorem cellsCS : Try.prog.cellsOf 27 = 5 := by kernel_rfl
theorem int_of_trod {fuel : Nat} {c : Value} {y : DataW H × List MemPlace} (h : DataW.trod enc Try.prog w base spare held fuel 3 [c] = some y) :
    ∃ n : Int, c = .int .i64 n ∧ -9223372036854775808 ≤ n ∧ n ≤ 9223372036854775807 := by
  obtain ⟨n, hn, -, wf⟩ := DataW.trod_int Try.underlying3 h
  simp only [List.cons.injEq, and_true] at hn
  have hw : -9223372036854775808 ≤ n ∧ n ≤ 9223372036854775807 := by
    simpa [Lit.wf, IntKind.min, IntKind.max, IntKind.signed, IntKind.bits] using wf
  exact ⟨n, hn, hw.1, hw.2⟩
theorem open_cs {r : Reach} {b0 : Nat} {v : Value} {d : DataW H} {p : List MemPlace} (hv : Value.okWide Try.prog w r b0 27 v) (h : DataW.Trod enc Try.prog w base spare held 27 v d p) :
    ∃ c : CS, v = c.val ∧ c.In := by
  obtain ⟨cs, rfl, hsz⟩ := okWide_struct Try.underlying27 hv
  have h5 := hsz.trans cellsCS
  obtain ⟨l⟩ := cs
  match l, h5 with
  | [c0, c1, c2, c3, c4], _ =>
    obtain ⟨fuel, hf⟩ := h
    obtain ⟨xs, n, _, hx, _, hlen, hg⟩ := DataW.trod_struct Try.underlying27 hf
    have g0 := hg 0 _ rfl
    have g1 := hg 1 _ rfl
    have g2 := hg 2 _ rfl
    have g3 := hg 3 _ rfl
    have g4 := hg 4 _ rfl
    match xs, hlen with
    | [y0, y1, y2, y3, y4], _ =>
      obtain ⟨a0, rfl, b0, b0'⟩ := int_of_trod (c := c0) (y := y0) g0
      obtain ⟨a1, rfl, b1, b1'⟩ := int_of_trod (c := c1) (y := y1) g1
      obtain ⟨a2, rfl, b2, b2'⟩ := int_of_trod (c := c2) (y := y2) g2
      obtain ⟨a3, rfl, b3, b3'⟩ := int_of_trod (c := c3) (y := y3) g3
      obtain ⟨a4, rfl, b4, b4'⟩ := int_of_trod (c := c4) (y := y4) g4
      exact ⟨⟨a0, a1, a2, a3, a4⟩, rfl, ⟨b0, b0', b1, b1', b2, b2', b3, b3', b4, b4'⟩⟩
end
end Go.Proofs.Ytmjodcackmjllaa
