/- An argument's reading opened: bits, lists of bits. -/
import Derived.Test.YtmjodcackmjllaaW8
import Derived.ProofKit
import Derived.OpenShut
import Derived.ShutString
import Derived.Deep.Slices
import Derived.Lib.SmallJoins
import Derived.ChangeOld
namespace Go.Proofs.Ytmjodcackmjllaa
open Go.ChangeShapes Go.WideShapes Go.ChangeAt Go.RowKit Go.Deep Go.Joins
set_option linter.unusedVariables false
set_option linter.unusedSimpArgs false

theorem tryOwn : ownKnob Try.prog.godebug = none := by kernel_rfl
theorem tryLaidOut : laidOutB Try.prog = true := by kernel_rfl
theorem cellsBits : Try.prog.cellsOf 108 = 2 := by kernel_rfl
theorem cellsU8 : Try.prog.cellsOf 5 = 1 := by kernel_rfl
theorem cellsSl : Try.prog.cellsOf 61 = 1 := by kernel_rfl
theorem cellsInt : Try.prog.cellsOf 3 = 1 := by kernel_rfl

set_option maxRecDepth 100000
section
variable {H : Type} {enc : TypeId × Value → H} {w : World} {base : Nat} {spare : Nat → Bool} {held : Bool}

theorem spot_none {w : World} {x : Addr} {v : Value} (h : w.cell? x = some v) : ∃ b off, x = ⟨b, off, none⟩ := by
  obtain ⟨b, off, spot⟩ := x
  have hs : spot = none := by simpa using World.cell?_spot h
  subst hs
  exact ⟨b, off, rfl⟩

/-- a slice of bytes, by its cell -/
theorem bytes_of_trod {fuel : Nat} {c : Value} {y : DataW H × List MemPlace} (h : DataW.trod enc Try.prog w base spare held fuel 61 [c] = some y) :
    ∃ a len cap l, c = .slice a len cap ∧ len ≤ cap ∧ cap ≤ 9223372036854775807 ∧ (∀ v ∈ l, v < 256) ∧ Row w .u8 a len l := by
  rcases open_ints Try.underlying61 Try.underlying5 cellsU8 h with ⟨hcs, -⟩ | ⟨x, len, cap, zs, hcs, -, hl, hm, hz, -, hcell, hwz⟩
  · simp only [List.cons.injEq, and_true] at hcs
    subst hcs
    exact ⟨none, 0, 0, [], rfl, Nat.le_refl _, by decide, fun v hv => (by cases hv), Row.nil _ _ _⟩
  · simp only [List.cons.injEq, and_true] at hcs
    subst hcs
    have hzl : len ≤ zs.length := by rw [hz]; split <;> omega
    have hb : ∀ z ∈ zs, 0 ≤ z ∧ z ≤ 255 := fun z hz' => by
      have := hwz z hz'
      simpa [Lit.wf, IntKind.min, IntKind.max, IntKind.signed, IntKind.bits] using this
    refine ⟨some x, len, cap, (zs.take len).map Int.toNat, rfl, hl, by unfold maxLen at hm; omega, ?_, ?_⟩
    · intro v hv
      simp only [List.mem_map] at hv
      obtain ⟨z, hz', rfl⟩ := hv
      have := hb z (List.mem_of_mem_take hz')
      omega
    · refine ⟨by simp; omega, fun i hi => ?_⟩
      have h0 := hcell 0 (by omega)
      have h0' : w.cell? x = some (.int .u8 (zs.getD 0 0)) := by simpa [Addr.add] using h0
      obtain ⟨b, off, rfl⟩ := spot_none h0'
      refine ⟨b, off, rfl, ?_⟩
      have hi' := hcell i (by omega)
      have e : (⟨b, off, none⟩ : Addr).add i = ⟨b, off + i, none⟩ := by
        unfold Addr.add; split <;> simp_all
      rw [e] at hi'
      rw [hi']
      have hzi := hb (zs.getD i 0) (by
        rw [List.getD_eq_getElem?_getD, List.getElem?_eq_getElem (by omega)]
        exact List.getElem_mem _)
      have e2 : ((zs.take len).map Int.toNat).getD i 0 = (zs.getD i 0).toNat := by
        simp only [List.getD_eq_getElem?_getD, List.getElem?_map, List.getElem?_take, hi, if_true]
        rw [List.getElem?_eq_getElem (by omega)]
        rfl
      rw [e2]
      congr 2
      omega

/-- bits, by their two cells -/
theorem bits_of_trod {fuel : Nat} {c0 c1 : Value} {y0 y1 : DataW H × List MemPlace} (h0 : DataW.trod enc Try.prog w base spare held fuel 3 [c0] = some y0)
    (h1 : DataW.trod enc Try.prog w base spare held fuel 61 [c1] = some y1) : ∃ x : RB, c0 = .int .i64 x.n ∧ c1 = .slice x.a x.len x.cap ∧ x.In w := by
  obtain ⟨n, hn, -, wf⟩ := DataW.trod_int Try.underlying3 h0
  simp only [List.cons.injEq, and_true] at hn
  obtain ⟨a, len, cap, l, rfl, hc, hm, hb, hr⟩ := bytes_of_trod h1
  have hw : -9223372036854775808 ≤ n ∧ n ≤ 9223372036854775807 := by
    simpa [Lit.wf, IntKind.min, IntKind.max, IntKind.signed, IntKind.bits] using wf
  exact ⟨⟨n, a, len, cap, l⟩, hn, rfl, hw.1, hw.2, hc, hm, hb, hr⟩

theorem open_bits {r : Reach} {b0 : Nat} {v : Value} {d : DataW H} {p : List MemPlace} (hv : Value.okWide Try.prog w r b0 108 v) (h : DataW.Trod enc Try.prog w base spare held 108 v d p) :
    ∃ x : RB, v = x.val ∧ x.In w := by
  obtain ⟨c0, c1, y0, y1, n, rfl, -, -, h0, h1⟩ := open_agg2 Try.underlying108 (by kernel_rfl) cellsBits hv h
  obtain ⟨x, rfl, rfl, hx⟩ := bits_of_trod h0 h1
  exact ⟨x, rfl, hx⟩

theorem cells_two {a : Addr} {cs : List Value} (h : w.cells? base a 2 = some cs) : ∃ c0 c1, cs = [c0, c1] ∧ w.cell? a = some c0 ∧ w.cell? (a.add 1) = some c1 := by
  unfold World.cells? at h
  split at h
  · simp only [List.range_succ, List.range_zero, List.nil_append, List.cons_append, List.mapM_cons, List.mapM_nil] at h
    cases h0 : w.cell? (a.add 0) with
    | none => simp [h0] at h
    | some c0 =>
      cases h1 : w.cell? (a.add 1) with
      | none => simp [h0, h1] at h
      | some c1 =>
        simp [h0, h1] at h
        subst h
        exact ⟨c0, c1, rfl, by simpa [Addr.add] using h0, rfl⟩
  · cases h

/-- a list of bits -/
theorem open_bits_list {r : Reach} {b0 : Nat} {v : Value} {d : DataW H} {p : List MemPlace} (hv : Value.okWide Try.prog w r b0 120 v) (h : DataW.Trod enc Try.prog w base spare held 120 v d p) :
    ∃ a n cap xs, v = .slice a n cap ∧ n ≤ 9223372036854775807 ∧ (n ≤ 100000000000000 → RBs w a n cap xs) := by
  obtain ⟨a0, len, cap, rfl⟩ := okWide_slice Try.underlying120 hv
  obtain ⟨fuel, hf⟩ := h
  rcases open_slice Try.underlying120 hf with ⟨hcs, -⟩ | ⟨x, len', cap', m, n, D, Pl, hcs, -, hl, hm, hmm, -, hel⟩
  · simp [Value.cells] at hcs
    obtain ⟨rfl, rfl, rfl⟩ := hcs
    exact ⟨none, 0, 0, [], rfl, by decide, fun _ => ⟨rfl, by decide, by decide, by decide, fun x hx => (by cases hx), fun i hi => absurd hi (by simp)⟩⟩
  · simp [Value.cells] at hcs
    obtain ⟨rfl, rfl, rfl⟩ := hcs
    have hml : len ≤ m := by rw [hmm]; split <;> omega
    rw [cellsBits] at hel
    have key : ∀ i, i < len → ∃ y : RB, y.In w ∧ ∃ b off, x = ⟨b, off, none⟩ ∧ w.cell? ⟨b, off + i * 2, none⟩ = some (.int .i64 y.n) ∧ w.cell? ⟨b, off + i * 2 + 1, none⟩ = some (.slice y.a y.len y.cap) := by
      intro i hi
      obtain ⟨cs', h1, h2⟩ := hel i (by omega)
      obtain ⟨c0, c1, rfl, hc0, hc1⟩ := cells_two h1
      obtain ⟨y0, y1, n', -, -, g0, g1⟩ := trod_struct2 Try.underlying108 h2
      rw [cellsInt] at g0
      rw [cellsSl] at g1
      obtain ⟨y, rfl, rfl, hy⟩ := bits_of_trod (by simpa using g0) (by simpa using g1)
      obtain ⟨b, off, hx⟩ := spot_none hc0
      refine ⟨y, hy, ?_⟩
      obtain ⟨xb, xo, xs⟩ := x
      by_cases hi0 : i = 0
      · subst hi0
        simp only [Addr.add, Nat.zero_mul, if_true, Addr.mk.injEq] at hx hc0 hc1
        obtain ⟨rfl, rfl, rfl⟩ := hx
        exact ⟨xb, xo, rfl, by simpa using hc0, by simpa [Addr.add] using hc1⟩
      · have hne : ¬ i * 2 = 0 := by omega
        simp only [Addr.add, hne, if_false, Addr.mk.injEq] at hx hc0 hc1
        have h00 := hel 0 (by omega)
        obtain ⟨cs0, k1, k2⟩ := h00
        obtain ⟨d0, d1, rfl, hd0, hd1⟩ := cells_two k1
        simp only [Addr.add, Nat.zero_mul, if_true] at hd0
        obtain ⟨b', off', hx'⟩ := spot_none hd0
        simp only [Addr.mk.injEq] at hx'
        obtain ⟨rfl, rfl, rfl⟩ := hx'
        exact ⟨xb, xo, rfl, hc0, by simpa using hc1⟩
    refine ⟨some x, len, cap, (List.range len).map fun i => if h : i < len then Classical.choose (key i h) else RB.zero, rfl, by unfold maxLen at hm; omega, fun hr => ⟨by simp, hl, by unfold maxLen at hm; omega, hr, fun y hy => ?_, fun i hi => ?_⟩⟩
    · simp only [List.mem_map, List.mem_range] at hy
      obtain ⟨i, hi, rfl⟩ := hy
      rw [dif_pos hi]
      exact (Classical.choose_spec (key i hi)).1
    · have hi' : i < len := by simpa using hi
      have hs := (Classical.choose_spec (key i hi')).2
      obtain ⟨b, off, h1, h2, h3⟩ := hs
      refine ⟨b, off, by rw [h1], ?_, ?_⟩
      · simpa [hi'] using h2
      · simpa [hi'] using h3
end
end Go.Proofs.Ytmjodcackmjllaa
