/- The walks of the reference of layer 2, 1: over, Sum. -/
import Derived.Test.YtdjbalaicfienaaW5
import Derived.Test.YtdjbalaicfienaaW8
namespace Go.Proofs.Ytdjbalaicfienaa
open Go.RowKit
set_option linter.unusedVariables false
set_option linter.unusedSimpArgs false

theorem RowV.boolAt {w : World} {a : Option Addr} {bs : List Bool} (h : RowV w a bs.length (bs.map Value.bool)) (h0 : 0 < bs.length) :
    ∃ b off, a = some ⟨b, off, none⟩ ∧ (∀ i, i < bs.length → w.cell? ⟨b, off + i, none⟩ = some (.bool (bs.getD i false))) ∧ b < w.heap.size := by
  obtain ⟨b, off, h1, h2, h3⟩ := h.addr h0
  refine ⟨b, off, h1, fun i hi => ?_, h3⟩
  rw [h2 i hi]
  simp [List.getD_eq_getElem?_getD, hi]

end Go.Proofs.Ytdjbalaicfienaa
