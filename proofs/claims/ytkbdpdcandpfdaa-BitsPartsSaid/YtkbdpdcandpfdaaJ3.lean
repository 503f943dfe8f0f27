/- bytes copied, bytes that are the same. -/
import Derived.Test.YtkbdpdcandpfdaaJ2
import Derived.Test.YtkbdpdcandpfdaaA1
import Derived.Deep.QuietTactic
import Derived.BigQuiet
namespace Go.Proofs.Ytkbdpdcandpfdaa
open Go.RowKit
set_option linter.unusedVariables false
set_option linter.unusedSimpArgs false
theorem infoU : (Try.prog.info? 5).map (fun i => (i.zero, i.size, i.bytes)) = some (some (.int .u8 0), 1, 1) := by kernel_rfl
theorem own_emptyU (w : World) (t : TypeId) : Own (w.alloc (.cells #[] t)) w.heap.size t (.slice (some ⟨w.heap.size, 0, none⟩) 0 0) [] :=
  ⟨rfl, .inr ⟨w.heap.size, 0, #[], rfl, Nat.le_refl _, heap_alloc_new w _, Nat.le_refl _, by decide, rfl, rfl⟩⟩
theorem Row.rowV {w : World} {k : IntKind} {a : Option Addr} {len : Nat} {l : List Nat} (h : Row w k a len l) : RowV w a len (l.map fun n : Nat => Value.int k n) := by
  have hl := h.1
  refine ⟨by rw [List.length_map, hl], fun i hi => ?_⟩
  obtain ⟨b, off, hab, hc⟩ := h.2 i hi
  refine ⟨b, off, hab, ?_⟩
  rw [hc]
  simp [List.getElem?_map, List.getElem?_eq_getElem (show i < l.length by omega), List.getD_eq_getElem?_getD]
set_option maxRecDepth 100000 in
set_option maxHeartbeats 1000000 in
theorem cloneU_any (a : Option Addr) (len cap : Nat) (l : List Nat) (w : World) (hrow : Row w .u8 a len l) (hc : len ≤ cap) (hm : cap ≤ 9223372036854775807) (hl : len ≤ 140737488355328) :
    Calls Try.prog 47 #[.slice a len cap] w fun e w' => ∃ a' cap', e = .returned (.slice a' len cap') ∧ Row w' .u8 a' len l ∧ len ≤ cap' ∧ cap' ≤ 9223372036854775807 ∧ (∀ x, a' = some x → w.heap.size ≤ x.block ∧ x.block < w'.heap.size) ∧ Keeps w w' := by
  have HR := Lib.hid (hrow.rowV.keeps ((Keeps.refl w).alloc (.cells #[] 5)))
  have HL := Lib.hid hrow
  have hll := hrow.1
  clear hrow
  cases a with
  | none =>
    have hlen : len = 0 := by
      rcases Nat.eq_zero_or_pos len with h0 | h0
      · exact h0
      · obtain ⟨b, off, hab, -⟩ := HL.out.2 0 h0
        cases hab
    subst hlen
    have hnil : ∀ w : World, (binOp .eql 30 (.slice none 0 cap) (.slice none 0 0)).run Try.prog w = .ok (.bool true) w := fun w => by kernel_rfl
    go_enter Try.func47, Try.ntmps47
    go_wp2_with fail
    go_ret
    exact ⟨none, 0, rfl, HL.out, Nat.le_refl _, by decide, fun x hx => (by cases hx), Keeps.refl w⟩
  | some y =>
    have hnil : ∀ w : World, (binOp .eql 30 (.slice (some y) len cap) (.slice none 0 0)).run Try.prog w = .ok (.bool false) w := fun w => by kernel_rfl
    go_enter Try.func47, Try.ntmps47
    go_wp2_with (refine wpList_rows rfl _ _ 30 rfl 5 1 (.int .u8 0) Try.underlying30 infoU rfl w.heap.size _ [] rfl (by exact own_emptyU _ _) (some y) len cap (l.map fun n : Nat => Value.int .u8 n) rfl (by exact HR.out) (by intro u hu; simp only [List.mem_map] at hu; obtain ⟨x, -, rfl⟩ := hu; rfl) (by simp; omega) (by simp; omega) (by simp) ?hmain)
    case hmain =>
      intro v' w1 hown hb
      have HK : Keeps w w1 := ((Keeps.refl w).alloc (.cells #[] 5)).below hb (Nat.le_refl _)
      obtain ⟨a', cap', rfl, h2, h3, h4, -⟩ := hown.nums
      subst hll
      go_wp2_with fail
      go_ret
      exact ⟨a', cap', rfl, h4, h2, h3, fun x hx => by subst hx; exact ⟨(hown.lt x.block rfl).1, (hown.lt x.block rfl).2⟩, HK⟩
set_option maxRecDepth 100000 in
set_option maxHeartbeats 1000000 in
theorem eqU_yes (a b : Option Addr) (len capa capb : Nat) (l : List Nat) (w : World) (ha : Row w .u8 a len l) (hb : Row w .u8 b len l) (h1 : len ≤ capa) (h2 : capa ≤ 9223372036854775807) (h3 : len ≤ capb) (h4 : capb ≤ 9223372036854775807) :
    Calls Try.prog 53 #[.slice a len capa, .slice b len capb] w fun e w' => e = .returned (.bool true) ∧ Keeps w w' := by
  have HU := Lib.hid ha
  have HV := Lib.hid hb
  clear ha hb
  go_enter Try.func53, Try.ntmps53
  go_wp2_with fail
  go_loopw [13] (fun i wr => ∃ k : Nat, k ≤ len ∧ i = .int .i64 k ∧ Hid (Keeps w wr)) (fun i _ => len - (intOf i).toNat)
  case atStart => exact ⟨0, Nat.zero_le _, rfl, Keeps.refl _⟩
  case round =>
    obtain ⟨k, hk, rfl, HK⟩ := hrel
    by_cases hlt : k < len
    · obtain ⟨b, off, rfl, hc, hb⟩ := (HU.out.keeps HK.out).addr (by omega)
      obtain ⟨b', off', rfl, hc', hb'⟩ := (HV.out.keeps HK.out).addr (by omega)
      have hcell := hc k hlt
      have hcell' := hc' k hlt
      clear hc hc'
      obtain ⟨y, hy⟩ : ∃ y, l.getD k 0 = y := ⟨_, rfl⟩
      rw [hy] at hcell hcell'
      clear hy
      go_wp2_with fail
      go_quiet (fail)
      go_wp2_with fail
      go_roundw
      case rel => exact ⟨k + 1, by omega, by go_num, HK.out.drewN _⟩
      case measure => simp [intOf]; omega
    · obtain rfl : k = len := by omega
      go_wp2_with fail
      go_ret
      exact ⟨rfl, HK.out⟩
end Go.Proofs.Ytkbdpdcandpfdaa
