/- Slices of numbers. -/
import Derived.Test.YtmjodcackmjllaaW1
import Derived.Test.YtmjodcackmjllaaBase2
import Derived.Test.YtmjodcackmjllaaQTail
import Derived.BigQuiet
import Derived.Test.YtmjodcackmjllaaLater
namespace Go.Proofs.Ytmjodcackmjllaa
open Go.RowKit
set_option linter.unusedVariables false
set_option linter.unusedSimpArgs false

/-- a slice of numbers -/
structure Ints (w : World) (v : Value) (zs : List Int) : Prop where
  shape : ∃ a cap, v = .slice a zs.length cap ∧ zs.length ≤ cap ∧ cap ≤ 9223372036854775807 ∧ RowV w a zs.length (zs.map (Value.int .i64))
theorem Ints.keeps {w w' : World} {v : Value} {zs : List Int} (h : Ints w v zs) (hk : Keeps w w') : Ints w' v zs := by
  obtain ⟨a, cap, h1, h2, h3, h4⟩ := h.shape
  exact ⟨a, cap, h1, h2, h3, h4.keeps hk⟩
theorem Own.ints {w : World} {base t : Nat} {v : Value} {zs : List Int} (h : Own w base t v (zs.map (Value.int .i64))) : Ints w v zs := by
  obtain ⟨a, cap, h1, h2, h3, h4⟩ := h.shape
  simp only [List.length_map] at h1 h2 h4
  exact ⟨a, cap, h1, h2, h3, h4⟩
theorem RowV.intAt {w : World} {a : Option Addr} {zs : List Int} (h : RowV w a zs.length (zs.map (Value.int .i64))) (h0 : 0 < zs.length) :
    ∃ b off, a = some ⟨b, off, none⟩ ∧ (∀ i, i < zs.length → w.cell? ⟨b, off + i, none⟩ = some (.int .i64 (zs.getD i 0))) ∧ b < w.heap.size := by
  obtain ⟨b, off, h1, h2, h3⟩ := h.addr h0
  refine ⟨b, off, h1, fun i hi => ?_, h3⟩
  rw [h2 i hi]
  simp [List.getD_eq_getElem?_getD, hi]
end Go.Proofs.Ytmjodcackmjllaa
