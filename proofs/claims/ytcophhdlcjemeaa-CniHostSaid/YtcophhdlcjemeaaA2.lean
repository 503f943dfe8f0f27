/- bytes copied; a cell of a box stored. -/
import Derived.Test.YtcophhdlcjemeaaK0
namespace Go.Proofs.Ytcophhdlcjemeaa
open Go.RowKit
set_option linter.unusedVariables false
set_option linter.unusedSimpArgs false
theorem Box.putK {w : World} {b t : Nat} {c : Array Value} (h : Box w b t c) (i : Nat) (v : Value) : Box (w.setCell ⟨b, i, none⟩ v) b t (c.setIfInBounds i v) := heap_setCell_same w b i c t v h
theorem infoY : (Try.prog.info? 5).map (fun i => (i.zero, i.size, i.bytes)) = some (some (.int .u8 0), 1, 1) := by kernel_rfl
theorem own_emptyY (w : World) (t : TypeId) : Own (w.alloc (.cells #[] t)) w.heap.size t (.slice (some ⟨w.heap.size, 0, none⟩) 0 0) [] :=
  ⟨rfl, .inr ⟨w.heap.size, 0, #[], rfl, Nat.le_refl _, heap_alloc_new w _, Nat.le_refl _, by decide, rfl, rfl⟩⟩
/-- 'append(l, xs...)' of bytes, l the call's own and empty -/
theorem wpList_copiedY {P : Program} {w : World} {ops : Array Oper} {rest : List Oper} {o : Oper} {a : Act} {Q : Exit → Act → World → Prop} (hgd : o.guard = none) (s x : Operand) (t : TypeId)
    (ho : o.op = .call { callee := .builtin .append, args := #[s, x], argTypes := #[t, t] }) (e bytes : Nat) (k : IntKind) (ht : P.underlying t = some (.slice e))
    (hinfo : (P.info? e).map (fun i => (i.zero, i.size, i.bytes)) = some (some (.int k 0), 1, bytes))
    (base : Nat) (v : Value) (hs : a.eval s = v) (hown : Own w base e v []) (y : Addr) (len cap : Nat) (l : List Nat) (hx : a.eval x = .slice (some y) len cap) (hrow : Row w k (some y) len l)
    (hlen : len * bytes ≤ 140737488355328) (h63 : len ≤ 9223372036854775807) (hbase : base ≤ w.heap.size)
    (h : ∀ a' cap' w', Row w' k a' len l → (∀ x, a' = some x → base ≤ x.block) → len ≤ cap' → cap' ≤ 9223372036854775807 → Below base w w' → wpList P ops Q rest (a.put o.dst (.slice a' len cap')) w') :
    wpList P ops Q (o :: rest) a w := by
  obtain ⟨i, hi, hz0, hz1, hz2⟩ := info_parts hinfo
  have hl := hrow.1
  refine wpList_append_own_at w hgd s x t ho base e i (.int k 0) 1 bytes ht hi hz0 hz1 hz2 rfl (by decide) v 0 [] hs hown y len cap (l.map fun n : Nat => Value.int k n) hx (by rw [List.length_map]; omega) (fun j u hj => ?_) (fun u hu => ?_) (by unfold maxLen; omega) (by rw [Nat.zero_add]; exact hlen) hbase ?_
  · simp only [List.getElem?_map, Option.map_eq_some_iff] at hj
    obtain ⟨z, hz, rfl⟩ := hj
    have hjl : j < l.length := (List.getElem?_eq_some_iff.1 hz).1
    obtain ⟨b, off, hab, hc⟩ := hrow.2 j (by omega)
    cases hab
    rw [List.getD_eq_getElem?_getD, hz] at hc
    by_cases hj0 : j = 0
    · subst hj0; simpa [Addr.add] using hc
    · simpa [Addr.add, hj0] using hc
  · simp only [List.mem_map] at hu
    obtain ⟨z, -, rfl⟩ := hu
    rfl
  · intro v' w' hown' hg _ hat
    have ho' : Own w' base e v' (l.map fun n : Nat => Value.int k n) := by
      unfold Own
      have h0 : 0 + len = (l.map fun n : Nat => Value.int k n).length := by rw [List.length_map]; omega
      rw [← h0]
      simpa using hown'
    obtain ⟨a', cap', rfl, h2, h3, h4, h5⟩ := ho'.nums
    rw [hl] at h2 h4 ⊢
    exact h a' cap' w' h4 h5 h2 h3 ((Below.refl base w).grown hg hbase (fun k hk => (hown.lt k hk).1))
set_option maxRecDepth 100000 in
set_option maxHeartbeats 1000000 in
/-- bytes copied -/
theorem cloneY (x : RY) (w : World) (hx : x.In w) (hl2 : x.len ≤ 512) :
    Calls Try.prog 60 #[.slice x.a x.len x.cap] w fun e w' => ∃ y : RY, e = .returned (.slice y.a y.len y.cap) ∧ y.l = x.l ∧ y.len = x.len ∧ y.In w' ∧ (∀ a, y.a = some a → w.heap.size ≤ a.block) ∧ Keeps w w' := by
  have HI := Lib.hid hx
  have hcap := hx.cap
  have hmax := hx.max
  clear hx
  obtain ⟨a, len, cap, l⟩ := x
  simp only at hl2 hcap hmax
  cases a with
  | none =>
    have hlen : len = 0 := by
      rcases Nat.eq_zero_or_pos len with h0 | h0
      · exact h0
      · obtain ⟨b, off, hab, -⟩ := HI.out.row.2 0 h0
        cases hab
    subst hlen
    have hl0 : l = [] := List.eq_nil_of_length_eq_zero HI.out.row.1
    subst hl0
    have hnil : ∀ w : World, (binOp .eql 36 (.slice none 0 cap) (.slice none 0 0)).run Try.prog w = .ok (.bool true) w := fun w => by kernel_rfl
    show Calls Try.prog 60 #[.slice none 0 cap] w _
    go_enter Try.func60, Try.ntmps60
    go_wp2_with fail
    go_ret
    exact ⟨RY.zero, rfl, rfl, rfl, RY.zero_in _, fun a ha => (by cases ha), Keeps.refl w⟩
  | some y =>
    have hnil : ∀ w : World, (binOp .eql 36 (.slice (some y) len cap) (.slice none 0 0)).run Try.prog w = .ok (.bool false) w := fun w => by kernel_rfl
    have HR := Lib.hid (HI.out.row.keeps ((Keeps.refl w).alloc (.cells #[] 5)))
    simp only at HR
    show Calls Try.prog 60 #[.slice (some y) len cap] w _
    go_enter Try.func60, Try.ntmps60
    go_wp2_with (refine wpList_copiedY rfl _ _ 36 rfl 5 1 .u8 Try.underlying36 infoY w.heap.size _ rfl (by exact own_emptyY _ _) y len cap l rfl (by exact HR.out) (by omega) (by omega) (by simp) ?hmain)
    case hmain =>
      intro a' cap' w1 hrow hfr hc1 hc2 hb
      have HK : Keeps w w1 := ((Keeps.refl w).alloc (.cells #[] 5)).below hb (Nat.le_refl _)
      have hby := HI.out.byte
      go_wp2_with fail
      go_ret
      exact ⟨⟨a', len, cap', l⟩, rfl, rfl, rfl, ⟨hc1, hc2, hby, hrow⟩, hfr, HK⟩
end Go.Proofs.Ytcophhdlcjemeaa
