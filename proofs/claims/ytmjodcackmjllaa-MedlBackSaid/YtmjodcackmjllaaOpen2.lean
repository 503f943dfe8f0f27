/- An argument's reading opened, 2: numbers, lists of numbers and of truths, strings. -/
import Derived.Test.YtmjodcackmjllaaOpen
import Derived.Test.YtmjodcackmjllaaNums
import Derived.Deep.Grids
import Derived.ChangeMaps5
namespace Go.Proofs.Ytmjodcackmjllaa
open Go.ChangeShapes Go.WideShapes Go.ChangeAt Go.RowKit Go.Deep Go.Joins
set_option linter.unusedVariables false
set_option linter.unusedSimpArgs false
set_option maxRecDepth 100000
section
variable {H : Type} {enc : TypeId × Value → H} {w : World} {base : Nat} {held : Bool} {r : Reach} {b0 : Nat} {v : Value} {d : DataW H} {p : List MemPlace}

theorem open_i64 {spare : Nat → Bool} (hv : Value.okWide Try.prog w r b0 3 v) (h : DataW.Trod enc Try.prog w base spare held 3 v d p) :
    ∃ z : Int, v = .int .i64 z ∧ -9223372036854775808 ≤ z ∧ z ≤ 9223372036854775807 := by
  obtain ⟨n, rfl, -, -, wf⟩ := open_int Try.underlying3 hv h
  have hw : -9223372036854775808 ≤ n ∧ n ≤ 9223372036854775807 := by
    simpa [Lit.wf, IntKind.min, IntKind.max, IntKind.signed, IntKind.bits] using wf
  exact ⟨n, rfl, hw.1, hw.2⟩
theorem open_u32 {spare : Nat → Bool} (hv : Value.okWide Try.prog w r b0 55 v) (h : DataW.Trod enc Try.prog w base spare held 55 v d p) :
    ∃ z : Nat, v = .int .u32 z ∧ 0 ≤ z ∧ z < 4294967296 := by
  obtain ⟨n, rfl, -, -, wf⟩ := open_int Try.underlying55 hv h
  have hw : 0 ≤ n ∧ n ≤ 4294967295 := by
    simpa [Lit.wf, IntKind.min, IntKind.max, IntKind.signed, IntKind.bits] using wf
  obtain ⟨z, rfl⟩ := Int.eq_ofNat_of_zero_le hw.1
  exact ⟨z, rfl, Nat.zero_le _, by omega⟩
theorem open_u16 {spare : Nat → Bool} (hv : Value.okWide Try.prog w r b0 41 v) (h : DataW.Trod enc Try.prog w base spare held 41 v d p) :
    ∃ z : Nat, v = .int .u16 z ∧ 0 ≤ z ∧ z < 65536 := by
  obtain ⟨n, rfl, -, -, wf⟩ := open_int Try.underlying41 hv h
  have hw : 0 ≤ n ∧ n ≤ 65535 := by
    simpa [Lit.wf, IntKind.min, IntKind.max, IntKind.signed, IntKind.bits] using wf
  obtain ⟨z, rfl⟩ := Int.eq_ofNat_of_zero_le hw.1
  exact ⟨z, rfl, Nat.zero_le _, by omega⟩
theorem open_u8 {spare : Nat → Bool} (hv : Value.okWide Try.prog w r b0 5 v) (h : DataW.Trod enc Try.prog w base spare held 5 v d p) :
    ∃ z : Nat, v = .int .u8 z ∧ 0 ≤ z ∧ z < 256 := by
  obtain ⟨n, rfl, -, -, wf⟩ := open_int Try.underlying5 hv h
  have hw : 0 ≤ n ∧ n ≤ 255 := by
    simpa [Lit.wf, IntKind.min, IntKind.max, IntKind.signed, IntKind.bits] using wf
  obtain ⟨z, rfl⟩ := Int.eq_ofNat_of_zero_le hw.1
  exact ⟨z, rfl, Nat.zero_le _, by omega⟩
theorem open_u64 {spare : Nat → Bool} (hv : Value.okWide Try.prog w r b0 121 v) (h : DataW.Trod enc Try.prog w base spare held 121 v d p) :
    ∃ z : Nat, v = .int .u64 z ∧ 0 ≤ z ∧ z < 18446744073709551616 := by
  obtain ⟨n, rfl, -, -, wf⟩ := open_int Try.underlying121 hv h
  have hw : 0 ≤ n ∧ n ≤ 18446744073709551615 := by
    simpa [Lit.wf, IntKind.min, IntKind.max, IntKind.signed, IntKind.bits] using wf
  obtain ⟨z, rfl⟩ := Int.eq_ofNat_of_zero_le hw.1
  exact ⟨z, rfl, Nat.zero_le _, by omega⟩
theorem open_string_v {spare : Nat → Bool} (hv : Value.okWide Try.prog w r b0 9 v) (h : DataW.Trod enc Try.prog w base spare held 9 v d p) :
    ∃ s : ByteArray, v = .string s ∧ s.size ≤ 9223372036854775807 := by
  obtain ⟨s, rfl, -, -, hs⟩ := Go.ChangeMaps.open_string Try.underlying9 hv h
  exact ⟨s, rfl, by unfold maxLen at hs; omega⟩
theorem cell_spot {w : World} {x : Addr} {n : Nat} {V : Nat → Value} (h : ∀ i, i < n → w.cell? (x.add i) = some (V i)) (h0 : 0 < n) :
    ∃ b off, x = ⟨b, off, none⟩ ∧ ∀ i, i < n → w.cell? ⟨b, off + i, none⟩ = some (V i) := by
  have h00 := h 0 h0
  obtain ⟨b, off, rfl⟩ := spot_none (by simpa [Addr.add] using h00 : w.cell? x = some (V 0))
  refine ⟨b, off, rfl, fun i hi => ?_⟩
  have e : (⟨b, off, none⟩ : Addr).add i = ⟨b, off + i, none⟩ := by
    unfold Addr.add; split <;> simp_all
  rw [← e]; exact h i hi
theorem open_ints_v {spare : Nat → Bool} (hv : Value.okWide Try.prog w r b0 34 v) (h : DataW.Trod enc Try.prog w base spare held 34 v d p) :
    ∃ zs : List Int, Ints w v zs ∧ ∀ z ∈ zs, -9223372036854775808 ≤ z ∧ z ≤ 9223372036854775807 := by
  obtain ⟨a0, len0, cap0, rfl⟩ := okWide_slice Try.underlying34 hv
  obtain ⟨fuel, hf⟩ := h
  rcases open_ints Try.underlying34 Try.underlying3 cellsInt hf with ⟨hcs, -⟩ | ⟨x, len, cap, zs, hcs, -, hl, hm, hz, -, hcell, hwz⟩
  · simp [Value.cells] at hcs
    obtain ⟨rfl, rfl, rfl⟩ := hcs
    exact ⟨[], ⟨none, 0, rfl, Nat.le_refl _, by decide, RowV.nil _ _⟩, fun z hz => by cases hz⟩
  · simp [Value.cells] at hcs
    obtain ⟨rfl, rfl, rfl⟩ := hcs
    have hzl : len0 ≤ zs.length := by rw [hz]; split <;> omega
    have htl : (zs.take len0).length = len0 := by simp; omega
    refine ⟨zs.take len0, ⟨some x, cap0, by rw [htl], by omega, by unfold maxLen at hm; omega, by rw [htl]; simp; omega, fun i hi => ?_⟩, fun z hz' => ?_⟩
    · rw [htl] at hi
      obtain ⟨b, off, rfl, hc⟩ := cell_spot (V := fun i => .int .i64 (zs.getD i 0)) (n := zs.length) hcell (by omega)
      refine ⟨b, off, rfl, ?_⟩
      rw [hc i (by omega)]
      simp [List.getElem?_take, hi, List.getElem?_eq_getElem (show i < zs.length by omega), List.getD_eq_getElem?_getD]
    · have := hwz z (List.mem_of_mem_take hz')
      simpa [Lit.wf, IntKind.min, IntKind.max, IntKind.signed, IntKind.bits] using this
theorem cellsBool : Try.prog.cellsOf 4 = 1 := by kernel_rfl
theorem open_bools_v (hv : Value.okWide Try.prog w r b0 22 v) (h : DataW.Trod enc Try.prog w base (fun _ => true) held 22 v d p) :
    ∃ bs : List Bool, Bools w v bs := by
  obtain ⟨a0, len0, cap0, rfl⟩ := okWide_slice Try.underlying22 hv
  obtain ⟨fuel, hf⟩ := h
  rcases open_bools Try.underlying22 Try.underlying4 cellsBool hf with ⟨hcs, -⟩ | ⟨x, len, cap, B, hcs, -, hl, hm, -, hcell⟩
  · simp [Value.cells] at hcs
    obtain ⟨rfl, rfl, rfl⟩ := hcs
    exact ⟨[], ⟨none, 0, rfl, Nat.le_refl _, by decide, RowV.nil _ _⟩⟩
  · simp [Value.cells] at hcs
    obtain ⟨rfl, rfl, rfl⟩ := hcs
    refine ⟨(List.range len0).map B, ⟨some x, cap0, by simp, by simpa using hl, by unfold maxLen at hm; omega, by simp, fun i hi => ?_⟩⟩
    have hi' : i < len0 := by simpa using hi
    obtain ⟨b, off, rfl, hc⟩ := cell_spot (V := fun i => .bool (B i)) (n := cap0) hcell (by omega)
    refine ⟨b, off, rfl, ?_⟩
    rw [hc i (by omega)]
    simp [hi']
end
end Go.Proofs.Ytmjodcackmjllaa
