/- The walks of package crc, 1: shift, table. -/
import Derived.Test.YtmjodcackmjllaaW3
import Derived.Test.YtmjodcackmjllaaPlainCrc
import Derived.Test.YtmjodcackmjllaaBase2
namespace Go.Proofs.Ytmjodcackmjllaa
open Go.RowKit
set_option linter.unusedVariables false
set_option linter.unusedSimpArgs false

theorem and_cut (x : Nat) (h : x < 4294967296) : bits .and .u32 (x : Int) 16777215 = ((x % 16777216 : Nat) : Int) := by
  rw [show (16777215 : Int) = ((16777215 : Nat) : Int) from rfl, u32_and_nat _ _ h (by decide)]
  rw [nat_mask24]
theorem xor_poly (x : Nat) (h : x < 4294967296) : bits .xor .u32 (x : Int) 6122955 = ((x ^^^ 6122955 : Nat) : Int) := by
  rw [show (6122955 : Int) = ((6122955 : Nat) : Int) from rfl, u32_xor_nat _ _ h (by decide)]

set_option maxHeartbeats 400000 in
theorem shift_any (rv : Int) (r : Nat) (w : World) (hrv : rv = r) (hr : r < 16777216) :
    Calls Try.prog 114 #[.int .u32 rv] w fun e w' => e = .returned (.int .u32 (crcStep r false)) ∧ w' = w := by
  subst hrv
  have hand := and_cut (r * 2) (by omega)
  rw [show ((r * 2 : Nat) : Int) = (r : Int) * 2 from by omega] at hand
  have HX := Lib.hid (xor_poly (r * 2 % 16777216) (by omega))
  have HA := Lib.hid hand
  clear hand
  by_cases ht : r / 8388608 % 2 = 1
  · have ht2 : ((r : Int) / 8388608 == 1) = true := by simp; omega
    go_enter Try.func114, Try.ntmps114
    go_wp2
    go_ret
    refine ⟨ret_int ?_, rfl⟩
    rw [HA.out]
    unfold crcStep
    rw [HX.out, if_pos (by simp [ht])]
  · have ht2 : ((r : Int) / 8388608 == 1) = false := by simp; omega
    go_enter Try.func114, Try.ntmps114
    go_wp2
    go_ret
    refine ⟨ret_int ?_, rfl⟩
    rw [HA.out]
    unfold crcStep
    rw [if_neg (by simp [ht])]

/-- the table, as far as it is made -/
def tabTo (k : Nat) : List Nat := (List.range 16).map fun i => if i < k then tabAt i else 0
theorem tabTo_len (k : Nat) : (tabTo k).length = 16 := by simp [tabTo]
theorem tabTo_succ (k : Nat) (h : k < 16) : tabTo (k + 1) = (tabTo k).set k (tabAt k) := by
  apply List.ext_getElem (by simp [tabTo])
  intro i h1 h2
  simp only [tabTo, List.getElem_map, List.getElem_range, List.getElem_set]
  by_cases h3 : i = k
  · subst h3; simp
  · have : ¬ k = i := by omega
    rw [if_neg this]
    by_cases h4 : i < k
    · rw [if_pos h4, if_pos (by omega)]
    · rw [if_neg h4, if_neg (by omega)]

theorem tab_none : tabTo 0 = List.replicate 16 0 := by decide +kernel

theorem sixteen (wr : World) (t g : Nat) (a0 a1 a2 a3 a4 a5 a6 a7 a8 a9 a10 a11 a12 a13 a14 a15 : Nat) (h : Blk wr .u32 t g (List.replicate 16 0)) :
    ((((((((((((((((wr.setCell ⟨g, 0, none⟩ (.int .u32 (a0 : Nat))).setCell ⟨g, 1, none⟩ (.int .u32 (a1 : Nat))).setCell ⟨g, 2, none⟩ (.int .u32 (a2 : Nat))).setCell ⟨g, 3, none⟩ (.int .u32 (a3 : Nat))).setCell ⟨g, 4, none⟩ (.int .u32 (a4 : Nat))).setCell ⟨g, 5, none⟩ (.int .u32 (a5 : Nat))).setCell ⟨g, 6, none⟩ (.int .u32 (a6 : Nat))).setCell ⟨g, 7, none⟩ (.int .u32 (a7 : Nat))).setCell ⟨g, 8, none⟩ (.int .u32 (a8 : Nat))).setCell ⟨g, 9, none⟩ (.int .u32 (a9 : Nat))).setCell ⟨g, 10, none⟩ (.int .u32 (a10 : Nat))).setCell ⟨g, 11, none⟩ (.int .u32 (a11 : Nat))).setCell ⟨g, 12, none⟩ (.int .u32 (a12 : Nat))).setCell ⟨g, 13, none⟩ (.int .u32 (a13 : Nat))).setCell ⟨g, 14, none⟩ (.int .u32 (a14 : Nat))).setCell ⟨g, 15, none⟩ (.int .u32 (a15 : Nat))).heap[g]? = some (.cells #[.int .u32 (a0 : Nat), .int .u32 (a1 : Nat), .int .u32 (a2 : Nat), .int .u32 (a3 : Nat), .int .u32 (a4 : Nat), .int .u32 (a5 : Nat), .int .u32 (a6 : Nat), .int .u32 (a7 : Nat), .int .u32 (a8 : Nat), .int .u32 (a9 : Nat), .int .u32 (a10 : Nat), .int .u32 (a11 : Nat), .int .u32 (a12 : Nat), .int .u32 (a13 : Nat), .int .u32 (a14 : Nat), .int .u32 (a15 : Nat)] t (0, 0)) := by
  have h' := ((((((((((((((((h.set 0 a0).set 1 a1).set 2 a2).set 3 a3).set 4 a4).set 5 a5).set 6 a6).set 7 a7).set 8 a8).set 9 a9).set 10 a10).set 11 a11).set 12 a12).set 13 a13).set 14 a14).set 15 a15)
  unfold Blk at h'
  rw [h']
  rfl

set_option maxHeartbeats 1000000 in
theorem table_any (w : World) :
    Calls Try.prog 107 #[] w fun e w' => e = .returned (.agg #[.int .u32 (tabAt 0 : Nat), .int .u32 (tabAt 1 : Nat), .int .u32 (tabAt 2 : Nat), .int .u32 (tabAt 3 : Nat), .int .u32 (tabAt 4 : Nat), .int .u32 (tabAt 5 : Nat), .int .u32 (tabAt 6 : Nat), .int .u32 (tabAt 7 : Nat), .int .u32 (tabAt 8 : Nat), .int .u32 (tabAt 9 : Nat), .int .u32 (tabAt 10 : Nat), .int .u32 (tabAt 11 : Nat), .int .u32 (tabAt 12 : Nat), .int .u32 (tabAt 13 : Nat), .int .u32 (tabAt 14 : Nat), .int .u32 (tabAt 15 : Nat)]) ∧ Keeps w w' := by
  go_enter Try.func107, Try.ntmps107
  go_wp2
  go_loopw [4] (fun i wr => ∃ k : Nat, k ≤ 16 ∧ i = .int .i64 k ∧ Hid (Blk wr .u32 130 (w.heap.size + 1) (tabTo k)) ∧ Hid (Keeps w wr) ∧ Hid (Blk wr .u32 130 w.heap.size (List.replicate 16 0))) (fun i _ => 16 - (intOf i).toNat)
  case atStart =>
    refine ⟨0, by omega, rfl, ?_, ((Keeps.refl w).alloc _).alloc _, ?_⟩
    · rw [tab_none]
      have := heap_alloc_new (w.alloc (.cells #[.int .u32 0, .int .u32 0, .int .u32 0, .int .u32 0, .int .u32 0, .int .u32 0, .int .u32 0, .int .u32 0, .int .u32 0, .int .u32 0, .int .u32 0, .int .u32 0, .int .u32 0, .int .u32 0, .int .u32 0, .int .u32 0] 130)) (.cells #[.int .u32 0, .int .u32 0, .int .u32 0, .int .u32 0, .int .u32 0, .int .u32 0, .int .u32 0, .int .u32 0, .int .u32 0, .int .u32 0, .int .u32 0, .int .u32 0, .int .u32 0, .int .u32 0, .int .u32 0, .int .u32 0] 130)
      rw [World.size_alloc] at this
      exact this
    · have := heap_alloc_new w (.cells #[.int .u32 0, .int .u32 0, .int .u32 0, .int .u32 0, .int .u32 0, .int .u32 0, .int .u32 0, .int .u32 0, .int .u32 0, .int .u32 0, .int .u32 0, .int .u32 0, .int .u32 0, .int .u32 0, .int .u32 0, .int .u32 0] 130)
      exact (Below.heap_alloc _ _ _ (by simp)).trans this
  case round =>
    obtain ⟨k, hk, rfl, HB, HK, HZ⟩ := hrel
    by_cases hlt : k < 16
    · have hd : decide ((k : Int) < 16) = true := by simp; omega
      have hd2 : decide (k < 16) = true := by simp; omega
      go_wp2_with fail
      clear hd hd2
      go_loopw [3, 10] (fun r i ws => ∃ j : Nat, j ≤ 4 ∧ i = .int .i64 j ∧ r = .int .u32 (sh (k * 1048576) j) ∧ ws = wr) (fun _ i _ => 4 - (intOf i).toNat)
      case atStart => exact ⟨0, by omega, rfl, int_val (by simp [sh]), rfl⟩
      case round =>
        obtain ⟨j, hj, rfl, rfl, rfl⟩ := hrel
        by_cases hlj : j < 4
        · go_wp2_with (go_at_call 114; refine (shift_any _ (sh (k * 1048576) j) _ rfl (by exact sh_lt _ (by omega) _)).mono ?_; rintro e w' ⟨rfl, rfl⟩)
          go_roundw
          case rel => exact ⟨j + 1, by omega, by go_num, rfl, trivial⟩
          case measure => simp [intOf]; omega
        · obtain rfl : j = 4 := by omega
          have hc := HB.out.cell k (by rw [tabTo_len]; exact hlt)
          have hf := HB.out.frozen k
          go_wp2_with fail
          go_roundw
          case rel =>
            refine ⟨k + 1, by omega, by go_num, ?_, ?_, ?_⟩
            · rw [tabTo_succ _ hlt]; exact HB.out.set k (tabAt k)
            · exact HK.out.setCell (by simp) _
            · exact HZ.out.keepsBut (KeepsBut.setCell _ _ _ _) (by omega)
          case measure => simp [intOf]; omega
    · obtain rfl : k = 16 := by omega
      have hc0 : wr.cell? ⟨w.heap.size + 1, 0, none⟩ = some (.int .u32 (tabAt 0 : Nat)) := HB.out.cell 0 (by decide)
      have hz0 : wr.cell? ⟨w.heap.size, 0, none⟩ = some (.int .u32 0) := HZ.out.cell 0 (by decide)
      have hc1 : wr.cell? ⟨w.heap.size + 1, 1, none⟩ = some (.int .u32 (tabAt 1 : Nat)) := HB.out.cell 1 (by decide)
      have hz1 : wr.cell? ⟨w.heap.size, 1, none⟩ = some (.int .u32 0) := HZ.out.cell 1 (by decide)
      have hc2 : wr.cell? ⟨w.heap.size + 1, 2, none⟩ = some (.int .u32 (tabAt 2 : Nat)) := HB.out.cell 2 (by decide)
      have hz2 : wr.cell? ⟨w.heap.size, 2, none⟩ = some (.int .u32 0) := HZ.out.cell 2 (by decide)
      have hc3 : wr.cell? ⟨w.heap.size + 1, 3, none⟩ = some (.int .u32 (tabAt 3 : Nat)) := HB.out.cell 3 (by decide)
      have hz3 : wr.cell? ⟨w.heap.size, 3, none⟩ = some (.int .u32 0) := HZ.out.cell 3 (by decide)
      have hc4 : wr.cell? ⟨w.heap.size + 1, 4, none⟩ = some (.int .u32 (tabAt 4 : Nat)) := HB.out.cell 4 (by decide)
      have hz4 : wr.cell? ⟨w.heap.size, 4, none⟩ = some (.int .u32 0) := HZ.out.cell 4 (by decide)
      have hc5 : wr.cell? ⟨w.heap.size + 1, 5, none⟩ = some (.int .u32 (tabAt 5 : Nat)) := HB.out.cell 5 (by decide)
      have hz5 : wr.cell? ⟨w.heap.size, 5, none⟩ = some (.int .u32 0) := HZ.out.cell 5 (by decide)
      have hc6 : wr.cell? ⟨w.heap.size + 1, 6, none⟩ = some (.int .u32 (tabAt 6 : Nat)) := HB.out.cell 6 (by decide)
      have hz6 : wr.cell? ⟨w.heap.size, 6, none⟩ = some (.int .u32 0) := HZ.out.cell 6 (by decide)
      have hc7 : wr.cell? ⟨w.heap.size + 1, 7, none⟩ = some (.int .u32 (tabAt 7 : Nat)) := HB.out.cell 7 (by decide)
      have hz7 : wr.cell? ⟨w.heap.size, 7, none⟩ = some (.int .u32 0) := HZ.out.cell 7 (by decide)
      have hc8 : wr.cell? ⟨w.heap.size + 1, 8, none⟩ = some (.int .u32 (tabAt 8 : Nat)) := HB.out.cell 8 (by decide)
      have hz8 : wr.cell? ⟨w.heap.size, 8, none⟩ = some (.int .u32 0) := HZ.out.cell 8 (by decide)
      have hc9 : wr.cell? ⟨w.heap.size + 1, 9, none⟩ = some (.int .u32 (tabAt 9 : Nat)) := HB.out.cell 9 (by decide)
      have hz9 : wr.cell? ⟨w.heap.size, 9, none⟩ = some (.int .u32 0) := HZ.out.cell 9 (by decide)
      have hc10 : wr.cell? ⟨w.heap.size + 1, 10, none⟩ = some (.int .u32 (tabAt 10 : Nat)) := HB.out.cell 10 (by decide)
      have hz10 : wr.cell? ⟨w.heap.size, 10, none⟩ = some (.int .u32 0) := HZ.out.cell 10 (by decide)
      have hc11 : wr.cell? ⟨w.heap.size + 1, 11, none⟩ = some (.int .u32 (tabAt 11 : Nat)) := HB.out.cell 11 (by decide)
      have hz11 : wr.cell? ⟨w.heap.size, 11, none⟩ = some (.int .u32 0) := HZ.out.cell 11 (by decide)
      have hc12 : wr.cell? ⟨w.heap.size + 1, 12, none⟩ = some (.int .u32 (tabAt 12 : Nat)) := HB.out.cell 12 (by decide)
      have hz12 : wr.cell? ⟨w.heap.size, 12, none⟩ = some (.int .u32 0) := HZ.out.cell 12 (by decide)
      have hc13 : wr.cell? ⟨w.heap.size + 1, 13, none⟩ = some (.int .u32 (tabAt 13 : Nat)) := HB.out.cell 13 (by decide)
      have hz13 : wr.cell? ⟨w.heap.size, 13, none⟩ = some (.int .u32 0) := HZ.out.cell 13 (by decide)
      have hc14 : wr.cell? ⟨w.heap.size + 1, 14, none⟩ = some (.int .u32 (tabAt 14 : Nat)) := HB.out.cell 14 (by decide)
      have hz14 : wr.cell? ⟨w.heap.size, 14, none⟩ = some (.int .u32 0) := HZ.out.cell 14 (by decide)
      have hc15 : wr.cell? ⟨w.heap.size + 1, 15, none⟩ = some (.int .u32 (tabAt 15 : Nat)) := HB.out.cell 15 (by decide)
      have hz15 : wr.cell? ⟨w.heap.size, 15, none⟩ = some (.int .u32 0) := HZ.out.cell 15 (by decide)
      have hf := HZ.out.frozen
      go_wp2_with fail
      clear hc0 hz0 hc1 hz1 hc2 hz2 hc3 hz3 hc4 hz4 hc5 hz5 hc6 hz6 hc7 hz7 hc8 hz8 hc9 hz9 hc10 hz10 hc11 hz11 hc12 hz12 hc13 hz13 hc14 hz14 hc15 hz15 hf
      have HF := sixteen wr 130 w.heap.size (tabAt 0) (tabAt 1) (tabAt 2) (tabAt 3) (tabAt 4) (tabAt 5) (tabAt 6) (tabAt 7) (tabAt 8) (tabAt 9) (tabAt 10) (tabAt 11) (tabAt 12) (tabAt 13) (tabAt 14) (tabAt 15) HZ.out
      refine bodyPost_ret (results_cell_row rfl _ _ w.heap.size 130 _ (0, 0) _ rfl HF Try.underlying130 rfl (by kernel_rfl)) rfl ⟨rfl, ?_⟩
      iterate 16 refine Keeps.setCell ?_ (Nat.le_refl _) _
      exact HK.out
end Go.Proofs.Ytmjodcackmjllaa
