/- An argument's reading opened, 11: a list of uint16. -/
import Derived.Test.YtdjbalaicfienaaOpen
import Derived.Test.YtdjbalaicfienaaOpen2
import Derived.Test.YtdjbalaicfienaaP31
namespace Go.Proofs.Ytdjbalaicfienaa
open Go.ChangeShapes Go.WideShapes Go.ChangeAt Go.RowKit Go.Deep Go.Joins
set_option linter.unusedVariables false
set_option linter.unusedSimpArgs false
set_option maxRecDepth 100000
section
variable {H : Type} {enc : TypeId × Value → H} {w : World} {base : Nat} {held : Bool}
theorem cellsU16 : Try.prog.cellsOf 79 = 1 := by kernel_rfl
theorem u16s_of_trod {fuel : Nat} {c : Value} {y : DataW H × List MemPlace} {spare : Nat → Bool} (h : DataW.trod enc Try.prog w base spare held fuel 78 [c] = some y) :
    ∃ a len cap l, c = .slice a len cap ∧ U16s w a len cap l := by
  rcases open_ints Try.underlying78 Try.underlying79 cellsU16 h with ⟨hcs, -⟩ | ⟨x, len, cap, zs, hcs, -, hl, hm, hz, -, hcell, hwz⟩
  · simp only [List.cons.injEq, and_true] at hcs
    subst hcs
    exact ⟨none, 0, 0, [], rfl, Nat.le_refl _, by decide, fun v hv => (by cases hv), Row.nil _ _ _⟩
  · simp only [List.cons.injEq, and_true] at hcs
    subst hcs
    have hzl : len ≤ zs.length := by rw [hz]; split <;> omega
    have hb : ∀ z ∈ zs, 0 ≤ z ∧ z ≤ 65535 := fun z hz' => by
      have := hwz z hz'
      simpa [Lit.wf, IntKind.min, IntKind.max, IntKind.signed, IntKind.bits] using this
    refine ⟨some x, len, cap, (zs.take len).map Int.toNat, rfl, hl, by unfold maxLen at hm; omega, ?_, ?_⟩
    · intro v hv
      simp only [List.mem_map] at hv
      obtain ⟨z, hz', rfl⟩ := hv
      have := hb z (List.mem_of_mem_take hz')
      omega
    · refine ⟨by simp; omega, fun i hi => ?_⟩
      have h0 := hcell 0 (by omega)
      have h0' : w.cell? x = some (.int .u16 (zs.getD 0 0)) := by simpa [Addr.add] using h0
      obtain ⟨b, off, rfl⟩ := spot_none h0'
      refine ⟨b, off, rfl, ?_⟩
      have hi' := hcell i (by omega)
      have e : (⟨b, off, none⟩ : Addr).add i = ⟨b, off + i, none⟩ := by
        unfold Addr.add; split <;> simp_all
      rw [e] at hi'
      rw [hi']
      have hzi := hb (zs.getD i 0) (by
        rw [List.getD_eq_getElem?_getD, List.getElem?_eq_getElem (by omega)]
        exact List.getElem_mem _)
      have e2 : ((zs.take len).map Int.toNat).getD i 0 = (zs.getD i 0).toNat := by
        simp only [List.getD_eq_getElem?_getD, List.getElem?_map, List.getElem?_take, hi, if_true]
        rw [List.getElem?_eq_getElem (by omega)]
        rfl
      rw [e2]
      congr 2
      omega
theorem open_u16s {spare : Nat → Bool} {r : Reach} {b0 : Nat} {v : Value} {d : DataW H} {p : List MemPlace} (hv : Value.okWide Try.prog w r b0 78 v) (h : DataW.Trod enc Try.prog w base spare held 78 v d p) :
    ∃ a n cap l, v = .slice a n cap ∧ U16s w a n cap l := by
  obtain ⟨a0, len, cap, rfl⟩ := okWide_slice Try.underlying78 hv
  obtain ⟨fuel, hf⟩ := h
  exact u16s_of_trod (c := .slice a0 len cap) hf
end
end Go.Proofs.Ytdjbalaicfienaa
