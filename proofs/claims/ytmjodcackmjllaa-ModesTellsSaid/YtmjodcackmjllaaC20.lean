/- slices.Equal of two lists of numbers that are the same. -/
import Derived.Test.YtmjodcackmjllaaNums
import Derived.Deep.QuietTactic
import Derived.BigQuiet
namespace Go.Proofs.Ytmjodcackmjllaa
open Go.RowKit
set_option linter.unusedVariables false
set_option linter.unusedSimpArgs false

theorem RowV.i64At {w : World} {a : Option Addr} {zs : List Int} (h : RowV w a zs.length (zs.map (Value.int .i64))) (h0 : 0 < zs.length) :
    ∃ b off, a = some ⟨b, off, none⟩ ∧ (∀ i, i < zs.length → w.cell? ⟨b, off + i, none⟩ = some (.int .i64 (zs.getD i 0))) ∧ b < w.heap.size := by
  obtain ⟨b, off, h1, h2, h3⟩ := h.addr h0
  refine ⟨b, off, h1, fun i hi => ?_, h3⟩
  rw [h2 i hi]
  simp [List.getElem?_map, List.getElem?_eq_getElem hi, List.getD_eq_getElem?_getD]
set_option maxRecDepth 100000 in
set_option maxHeartbeats 1000000 in
theorem eqInts_yes (u v : Value) (zs : List Int) (w : World) (hu : Ints w u zs) (hv : Ints w v zs) :
    Calls Try.prog 40 #[u, v] w fun e w' => e = .returned (.bool true) ∧ Keeps w w' := by
  obtain ⟨ua, ucap, rfl, hu1, hu2, hu3⟩ := hu.shape
  obtain ⟨va, vcap, rfl, hv1, hv2, hv3⟩ := hv.shape
  have HU := Lib.hid hu3
  have HV := Lib.hid hv3
  clear hu hv hu3 hv3
  go_enter Try.func40, Try.ntmps40
  go_wp2_with fail
  go_loopw [13] (fun i wr => ∃ k : Nat, k ≤ zs.length ∧ i = .int .i64 k ∧ Hid (Keeps w wr)) (fun i _ => zs.length - (intOf i).toNat)
  case atStart => exact ⟨0, Nat.zero_le _, rfl, Keeps.refl _⟩
  case round =>
    obtain ⟨k, hk, rfl, HK⟩ := hrel
    by_cases hlt : k < zs.length
    · obtain ⟨b, off, rfl, hc, hb⟩ := (HU.out.keeps HK.out).i64At (by omega)
      obtain ⟨b', off', rfl, hc', hb'⟩ := (HV.out.keeps HK.out).i64At (by omega)
      have hcell := hc k hlt
      have hcell' := hc' k hlt
      clear hc hc'
      obtain ⟨y, hy⟩ : ∃ y, zs.getD k 0 = y := ⟨_, rfl⟩
      rw [hy] at hcell hcell'
      clear hy
      go_wp2_with fail
      go_quiet (fail)
      go_wp2_with fail
      go_roundw
      case rel => exact ⟨k + 1, by omega, by go_num, HK.out.drewN _⟩
      case measure => simp [intOf]; omega
    · obtain rfl : k = zs.length := by omega
      go_wp2_with fail
      go_ret
      exact ⟨rfl, HK.out⟩
end Go.Proofs.Ytmjodcackmjllaa
