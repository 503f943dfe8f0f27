/- An argument's reading opened, 12: bytes within the reach. -/
import Derived.Test.YtmjodcackmjllaaOpen
import Derived.SizedLaws
import Derived.Test.YtmjodcackmjllaaQ12
namespace Go.Proofs.Ytmjodcackmjllaa
open Go.ChangeShapes Go.WideShapes Go.ChangeAt Go.RowKit Go.Deep Go.Joins
set_option linter.unusedVariables false
set_option linter.unusedSimpArgs false
set_option maxRecDepth 100000
section
variable {H : Type} {enc : TypeId × Value → H} {w : World} {base : Nat} {held : Bool}
theorem bytesU8z : Try.prog.bytesOf 5 = 1 := by kernel_rfl
theorem bytes_sizedZ {spare : Nat → Bool} {fuel : Nat} {a : Option Addr} {ln cap : Nat} {y : DataW H × List MemPlace} (h : DataW.trod enc Try.prog w base spare held fuel 61 [.slice a ln cap] = some y)
    (hz : ∀ n ∈ y.1.weights Try.prog 61, n ≤ reachBytes) : ln ≤ 140737488355328 := by
  rcases open_slice Try.underlying61 h with ⟨hcs, -⟩ | ⟨a, len, cap, m, n, D, Pl, hcs, -, hl, hm, hmm, hx, -⟩
  · simp only [List.cons.injEq, Value.slice.injEq, and_true] at hcs
    omega
  · simp only [List.cons.injEq, Value.slice.injEq, and_true] at hcs
    obtain ⟨-, h2, -⟩ := hcs
    have := hz ((len + (m - len)) * Try.prog.bytesOf 5) (by rw [hx]; simp [DataW.weights, Try.underlying61])
    rw [bytesU8z] at this
    have hr := reachBytes_lt
    omega
theorem Row.rowV8 {w : World} {a : Option Addr} {len : Nat} {l : List Nat} (h : Row w .u8 a len l) : RowV w a l.length (u8s l) := by
  have hl := h.1
  refine ⟨u8s_len l, fun i hi => ?_⟩
  obtain ⟨b, off, hab, hc⟩ := h.2 i (by omega)
  refine ⟨b, off, hab, ?_⟩
  rw [hc]
  simp [u8s, hi]
theorem open_yb {spare : Nat → Bool} {r : Reach} {b0 : Nat} {v : Value} {d : DataW H} {p : List MemPlace} (hv : Value.okWide Try.prog w r b0 61 v) (h : DataW.Trod enc Try.prog w base spare held 61 v d p) (hz : ∀ n ∈ d.weights Try.prog 61, n ≤ reachBytes) :
    ∃ a cap l, v = .slice a l.length cap ∧ YB w a cap l := by
  obtain ⟨a0, len, cap, rfl⟩ := okWide_slice Try.underlying61 hv
  obtain ⟨fuel, hf⟩ := h
  have hlen := bytes_sizedZ (a := a0) (ln := len) (cap := cap) hf hz
  obtain ⟨a, len', cap', l, he, hc, hm, hb, hr⟩ := bytes_of_trod (c := .slice a0 len cap) hf
  simp only [Value.slice.injEq] at he
  obtain ⟨rfl, rfl, rfl⟩ := he
  have hl := hr.1
  subst hl
  exact ⟨a0, cap, l, rfl, hr.rowV8, hc, hm, hlen, hb⟩
end
end Go.Proofs.Ytmjodcackmjllaa
