/- An argument's reading opened, 5: a clock. -/
import Derived.Test.YtcophhdlcjemeaaOpen4
import Derived.Test.YtcophhdlcjemeaaM11
namespace Go.Proofs.Ytcophhdlcjemeaa
open Go.ChangeShapes Go.WideShapes Go.ChangeAt Go.RowKit Go.Deep Go.Joins
set_option linter.unusedVariables false
set_option linter.unusedSimpArgs false
set_option maxRecDepth 100000
section
variable {H : Type} {enc : TypeId × Value → H} {w : World} {base : Nat} {held : Bool}
theorem cellsClk : Try.prog.cellsOf 28 = 3 := by kernel_rfl
theorem cellsI64 : Try.prog.cellsOf 2 = 1 := by kernel_rfl
theorem int64_of_trod {spare : Nat → Bool} {fuel : Nat} {c : Value} {y : DataW H × List MemPlace} (h : DataW.trod enc Try.prog w base spare held fuel 2 [c] = some y) :
    ∃ n : Int, c = .int .i64 n ∧ -9223372036854775808 ≤ n ∧ n ≤ 9223372036854775807 := by
  obtain ⟨n, hn, -, wf⟩ := DataW.trod_int Try.underlying2 h
  simp only [List.cons.injEq, and_true] at hn
  have hw : -9223372036854775808 ≤ n ∧ n ≤ 9223372036854775807 := by
    simpa [Lit.wf, IntKind.min, IntKind.max, IntKind.signed, IntKind.bits] using wf
  exact ⟨n, hn, hw.1, hw.2⟩
theorem open_clk {r : Reach} {b0 : Nat} {v : Value} {d : DataW H} {p : List MemPlace} (hv : Value.okWide Try.prog w r b0 28 v) (h : DataW.Trod enc Try.prog w base (fun _ => true) held 28 v d p) :
    ∃ c : RClk, v = c.val ∧ c.In w := by
  obtain ⟨cs, rfl, hsz⟩ := okWide_struct Try.underlying28 hv
  have h3 := hsz.trans cellsClk
  obtain ⟨l⟩ := cs
  match l, h3 with
  | [c0, c1, c2], _ =>
    obtain ⟨fuel, hf⟩ := h
    obtain ⟨xs, n, _, hx, _, hlen, hg⟩ := DataW.trod_struct Try.underlying28 hf
    have g0 := hg 0 _ rfl
    have g1 := hg 1 _ rfl
    have g2 := hg 2 _ rfl
    match xs, hlen with
    | [y0, y1, y2], _ =>
      obtain ⟨a0, rfl, -⟩ := int64_of_trod (c := c0) (y := y0) g0
      obtain ⟨a1, rfl, -⟩ := int_of_trodM (c := c1) (y := y1) g1
      obtain ⟨ds, hd⟩ := ints_of_trod (c := c2) (y := y2) Try.underlying26 Try.underlying2 cellsI64 g2
      exact ⟨⟨a0, a1, c2, ds⟩, rfl, ⟨hd⟩⟩
end
end Go.Proofs.Ytcophhdlcjemeaa
