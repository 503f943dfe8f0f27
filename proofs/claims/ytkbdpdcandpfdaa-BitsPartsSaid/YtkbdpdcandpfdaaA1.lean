/- 'append(nil, xs...)' of numbers, however many: a copy of the row, in memory of its own. No function of the program in sight. -/
import Derived.Test.YtkbdpdcandpfdaaBase2
import Derived.Maps.AppendAt
import Derived.Laws.AppendOwnNone
namespace Go.Proofs.Ytkbdpdcandpfdaa
open Go.RowKit
set_option linter.unusedVariables false
set_option linter.unusedSimpArgs false
theorem run_append_none {P : Program} (w : World) (t ty e : TypeId) (i : TypeInfo) (cap : Nat) (ht : P.underlying t = some (.slice e)) (hi : P.info? e = some i) :
    (Builtin.append_ #[t, t] ty #[.slice none 0 0, .slice none 0 cap]).run P w = .ok (.slice none 0 0) w := by
  simp [Builtin.append_, run_underlying ht, sizeOf, typeInfo, hi, Builtin.lenOf, Builtin.firstCells]
/-- a row of numbers that the call itself has made -/
theorem Own.nums {w : World} {base t : Nat} {k : IntKind} {v : Value} {l : List Nat} (h : Own w base t v (l.map fun n : Nat => Value.int k n)) :
    ∃ a cap, v = .slice a l.length cap ∧ l.length ≤ cap ∧ cap ≤ 9223372036854775807 ∧ Row w k a l.length l ∧ ∀ x, a = some x → base ≤ x.block := by
  obtain ⟨a, cap, h1, h2, h3, h4⟩ := h.shape
  rw [List.length_map] at h1 h2 h4
  refine ⟨a, cap, h1, h2, h3, ⟨rfl, fun i hi => ?_⟩, fun x hx => ?_⟩
  · obtain ⟨b, off, hab, hc⟩ := h4.2 i hi
    refine ⟨b, off, hab, ?_⟩
    rw [hc]
    simp [List.getElem?_map, List.getElem?_eq_getElem hi, List.getD_eq_getElem?_getD]
  · subst hx h1
    exact (h.lt x.block rfl).1
/-- 'append([]T(nil), xs...)' -/
theorem wpList_copied {P : Program} {w : World} {ops : Array Oper} {rest : List Oper} {o : Oper} {a : Act} {Q : Exit → Act → World → Prop} (hgd : o.guard = none) (s x : Operand) (t : TypeId)
    (ho : o.op = .call { callee := .builtin .append, args := #[s, x], argTypes := #[t, t] }) (e bytes : Nat) (k : IntKind) (ht : P.underlying t = some (.slice e))
    (hinfo : (P.info? e).map (fun i => (i.zero, i.size, i.bytes)) = some (some (.int k 0), 1, bytes))
    (hs : a.eval s = .slice none 0 0) (ad : Option Addr) (len cap : Nat) (l : List Nat) (hx : a.eval x = .slice ad len cap) (hrow : Row w k ad len l)
    (hlen : len * bytes ≤ 140737488355328) (h63 : len ≤ 9223372036854775807)
    (h : ∀ a' cap' w', Row w' k a' len l → (∀ x, a' = some x → w.heap.size ≤ x.block) → len ≤ cap' → cap' ≤ 9223372036854775807 → Keeps w w' → wpList P ops Q rest (a.put o.dst (.slice a' len cap')) w') :
    wpList P ops Q (o :: rest) a w := by
  obtain ⟨i, hi, hz0, hz1, hz2⟩ := info_parts hinfo
  have hl := hrow.1
  have key : ∀ (y : Addr), ad = some y → wpList P ops Q (o :: rest) a w := by
    intro y hy
    subst hy
    refine wpList_append_own_at w hgd s x t ho w.heap.size e i (.int k 0) 1 bytes ht hi hz0 hz1 hz2 rfl (by decide) (.slice none 0 0) 0 [] hs (World.ownsRow_nil _ _ _ _) y len cap (l.map fun n : Nat => Value.int k n) hx (by rw [List.length_map]; omega) (fun j u hj => ?_) (fun u hu => ?_) (by unfold maxLen; omega) (by rw [Nat.zero_add]; exact hlen) (Nat.le_refl _) ?_
    · simp only [List.getElem?_map, Option.map_eq_some_iff] at hj
      obtain ⟨z, hz, rfl⟩ := hj
      have hjl : j < l.length := (List.getElem?_eq_some_iff.1 hz).1
      obtain ⟨b, off, hab, hc⟩ := hrow.2 j (by omega)
      cases hab
      rw [List.getD_eq_getElem?_getD, hz] at hc
      by_cases hj0 : j = 0
      · subst hj0; simpa [Addr.add] using hc
      · simpa [Addr.add, hj0] using hc
    · simp only [List.mem_map] at hu
      obtain ⟨z, -, rfl⟩ := hu
      rfl
    · intro v' w' hown' hg _ hat
      have ho' : Own w' w.heap.size e v' (l.map fun n : Nat => Value.int k n) := by
        unfold Own
        have h0 : 0 + len = (l.map fun n : Nat => Value.int k n).length := by rw [List.length_map]; omega
        rw [← h0]
        simpa using hown'
      obtain ⟨a', cap', rfl, h2, h3, h4, h5⟩ := ho'.nums
      rw [hl] at h2 h4 ⊢
      exact h a' cap' w' h4 h5 h2 h3 ((Below.refl w.heap.size w).grown hg (Nat.le_refl _) (fun k hk => by simp [Value.ownBlock] at hk))
  cases ad with
  | some y => exact key y rfl
  | none =>
    have h0 : len = 0 := by
      rcases Nat.eq_zero_or_pos len with h0 | h0
      · exact h0
      · obtain ⟨b, off, hab, -⟩ := hrow.2 0 h0
        cases hab
    subst h0
    refine wpList_plain hgd fun K hK => ?_
    have hrun := run_append_none (P := P) w t o.type e i cap ht hi
    unfold Oper.wp
    simp [execOp, ho, resolve, invoke, builtin, hs, hx, hrun, Result.andThen]
    refine hK _ _ (h none 0 w hrow (fun x hx => by cases hx) (Nat.le_refl _) (by omega) (Keeps.refl w))
end Go.Proofs.Ytkbdpdcandpfdaa
