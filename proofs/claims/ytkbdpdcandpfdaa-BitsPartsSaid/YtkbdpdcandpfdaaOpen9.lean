/- An argument's reading opened, 9: bits, and lists of bits, within the reach. -/
import Derived.Test.YtkbdpdcandpfdaaOpen
import Derived.SizedLaws
namespace Go.Proofs.Ytkbdpdcandpfdaa
open Go.ChangeShapes Go.WideShapes Go.ChangeAt Go.RowKit Go.Deep Go.Joins
set_option linter.unusedVariables false
set_option linter.unusedSimpArgs false
set_option maxRecDepth 100000
section
variable {H : Type} {enc : TypeId × Value → H} {w : World} {base : Nat} {held : Bool}
theorem bytesU8s : Try.prog.bytesOf 5 = 1 := by kernel_rfl
theorem bytesBits : Try.prog.bytesOf 32 = 32 := by kernel_rfl
theorem bytes_sized {spare : Nat → Bool} {fuel : Nat} {a : Option Addr} {ln cap : Nat} {y : DataW H × List MemPlace} (h : DataW.trod enc Try.prog w base spare held fuel 30 [.slice a ln cap] = some y)
    (hz : ∀ n ∈ y.1.weights Try.prog 30, n ≤ reachBytes) : ln ≤ 140737488355328 := by
  rcases open_slice Try.underlying30 h with ⟨hcs, -⟩ | ⟨a, len, cap, m, n, D, Pl, hcs, -, hl, hm, hmm, hx, -⟩
  · simp only [List.cons.injEq, Value.slice.injEq, and_true] at hcs
    omega
  · simp only [List.cons.injEq, Value.slice.injEq, and_true] at hcs
    obtain ⟨-, h2, -⟩ := hcs
    have := hz ((len + (m - len)) * Try.prog.bytesOf 5) (by rw [hx]; simp [DataW.weights, Try.underlying30])
    rw [bytesU8s] at this
    have hr := reachBytes_lt
    omega
theorem open_bits_sized {spare : Nat → Bool} {r : Reach} {b0 : Nat} {v : Value} {d : DataW H} {p : List MemPlace} (hv : Value.okWide Try.prog w r b0 32 v) (h : DataW.Trod enc Try.prog w base spare held 32 v d p) (hz : ∀ n ∈ d.weights Try.prog 32, n ≤ reachBytes) :
    ∃ x : RB, v = x.val ∧ x.In w ∧ x.len ≤ 140737488355328 := by
  obtain ⟨cs, rfl, hsz⟩ := okWide_struct Try.underlying32 hv
  have h5 := hsz.trans cellsBits
  obtain ⟨l⟩ := cs
  match l, h5 with
  | [c0, c1], _ =>
    obtain ⟨fuel, hf⟩ := h
    obtain ⟨xs, n, _, hx, _, hlen, hg⟩ := DataW.trod_struct Try.underlying32 hf
    have g0 := hg 0 _ rfl
    have g1 := hg 1 _ rfl
    match xs, hlen with
    | [y0, y1], _ =>
      simp only [Prod.mk.injEq] at hx
      obtain ⟨x, rfl, rfl, hi⟩ := bits_of_trod (c0 := c0) (c1 := c1) (y0 := y0) (y1 := y1) g0 g1
      exact ⟨x, rfl, hi, bytes_sized (y := y1) g1 (fun k hk => hz k (by
        rw [hx.1]
        simp only [DataW.weights, Try.underlying32]
        exact DataW.weights_mem_each (j := 1) rfl rfl k hk))⟩
theorem open_bits_list_sized {r : Reach} {b0 : Nat} {v : Value} {d : DataW H} {p : List MemPlace} (hv : Value.okWide Try.prog w r b0 22 v) (h : DataW.Trod enc Try.prog w base (fun _ => true) held 22 v d p) (hz : ∀ n ∈ d.weights Try.prog 22, n ≤ reachBytes) :
    ∃ a n cap xs, v = .slice a n cap ∧ RBs w a n cap xs := by
  obtain ⟨a, n, cap, xs, rfl, -, hx⟩ := open_bits_list hv h
  refine ⟨a, n, cap, xs, rfl, hx ?_⟩
  obtain ⟨fuel, hf⟩ := h
  rcases open_slice Try.underlying22 hf with ⟨hcs, -⟩ | ⟨a, len, cap, m, n, D, Pl, hcs, -, hl, hm, hmm, hx, -⟩
  · simp [Value.cells] at hcs
    omega
  · simp [Value.cells] at hcs
    obtain ⟨-, h2, -⟩ := hcs
    have := hz ((len + (m - len)) * Try.prog.bytesOf 32) (by rw [(Prod.mk.inj hx).1]; simp [DataW.weights, Try.underlying22])
    rw [bytesBits] at this
    have hr := reachBytes_lt
    omega
end
end Go.Proofs.Ytkbdpdcandpfdaa
