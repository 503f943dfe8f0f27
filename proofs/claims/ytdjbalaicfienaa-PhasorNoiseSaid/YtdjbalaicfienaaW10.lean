/- The walks of the reference of layer 1, 3: Of. -/
import Derived.Test.YtdjbalaicfienaaW2
import Derived.Test.YtdjbalaicfienaaW9
import Derived.Test.YtdjbalaicfienaaPlainBits2
namespace Go.Proofs.Ytdjbalaicfienaa
open Go.RowKit
set_option linter.unusedVariables false
set_option linter.unusedSimpArgs false

theorem Blk.is {w : World} {g : Nat} {bs : List Bool} (h : Blk w .u8 5 g (pack bs)) (hm : bs.length ≤ 4096) (cap : Nat) (hc1 : (bs.length + 7) / 8 ≤ cap) (hc2 : cap ≤ 9223372036854775807) :
    RB.Is ⟨bs.length, some ⟨g, 0, none⟩, (bs.length + 7) / 8, cap, pack bs⟩ w bs :=
  ⟨⟨by simp only; omega, by simp only; omega, hc1, hc2, pack_lt bs, h.row _ (pack_len bs)⟩, rfl, rfl, hm⟩

theorem or_pow (v i : Nat) (hv : v < 256) : bits .or .u8 (v : Int) (2 ^ (7 - i % 8) % 256) = ((v ||| 2 ^ (7 - i % 8) : Nat) : Int) := by
  have hp := pow_lt_256 i
  have e : ((2 : Int) ^ (7 - i % 8) % 256) = ((2 ^ (7 - i % 8) : Nat) : Int) := by
    have : ((2 ^ (7 - i % 8) : Nat) : Int) = (2 : Int) ^ (7 - i % 8) := by simp
    rw [← this]
    revert hp
    generalize 2 ^ (7 - i % 8) = p
    intro hp
    omega
  rw [e, u8_or_nat _ _ hv hp]

set_option maxHeartbeats 400000 in
theorem rof_long (v : Value) (bs : List Bool) (w : World) (hl : Bools w v bs) (hm : 4096 < bs.length) :
    Calls Try.prog 88 #[v] w fun e w' => e = .returned (.tuple #[RB.zero.val, .int .i64 3]) ∧ Keeps w w' := by
  obtain ⟨a, cap, rfl, hcap, hmax, hrow⟩ := hl.shape
  clear hl hrow
  go_enter Try.func88, Try.ntmps88
  go_wp2_with fail
  refine bodyPost_ret (by simp [results, Try.results88, go_sem, RB.val, RB.zero]) rfl ⟨rfl, (Keeps.refl _).alloc _⟩

set_option maxHeartbeats 1000000 in
theorem rof_ok (v : Value) (bs : List Bool) (w : World) (hl : Bools w v bs) (hm : bs.length ≤ 4096) :
    Calls Try.prog 88 #[v] w fun e w' => ∃ y : RB, e = .returned (.tuple #[y.val, .int .i64 0]) ∧ y.Is w' bs ∧ y.Fr w.heap.size ∧ Keeps w w' := by
  obtain ⟨a, cap, rfl, hcap, hmax, hrow⟩ := hl.shape
  have HR := Lib.hid hrow
  clear hl hrow
  have hmk := fun w => run_make_zeros (P := Try.prog) 24 5 1 .u8 Try.underlying24 info_u8 ((bs.length + 7) / 8) (((bs.length : Int) + 7) / 8) (by omega) (by omega) (by omega) w
  have hd : decide ((4096 : Int) < bs.length) = false := by simp; omega
  go_enter Try.func88, Try.ntmps88
  go_wp2_with fail
  clear hmk
  go_loopw [5] (fun i wr => ∃ k : Nat, k ≤ bs.length ∧ i = .int .i64 k ∧ Hid (Blk wr .u8 5 (w.heap.size + 1) (pack (ofTo bs k))) ∧
      Hid (Box wr w.heap.size 26 #[.int .i64 0, .slice none 0 0]) ∧ Hid (Box wr (w.heap.size + 1 + 1) 26 #[.int .i64 bs.length, .slice (some ⟨w.heap.size + 1, 0, none⟩) ((bs.length + 7) / 8) ((bs.length + 7) / 8)]) ∧
      Hid (Keeps w wr)) (fun i _ => bs.length - (intOf i).toNat)
  case atStart =>
    refine ⟨0, by omega, rfl, ?_, ?_, ?_, (((Keeps.refl w).alloc _).alloc _).alloc _⟩
    · rw [ofTo_zero, pack_blank]
      have := (Blk.zeros (w.alloc (.cells #[.int .i64 0, .slice none 0 0] 26)) .u8 5 ((bs.length + 7) / 8))
      rw [World.size_alloc] at this
      exact this.next _
    · exact ((Box.new w _ _).next _).next _
    · have := Box.new ((w.alloc (.cells #[.int .i64 0, .slice none 0 0] 26)).alloc (.cells (zeros .u8 ((bs.length + 7) / 8)) 5)) 26 #[.int .i64 bs.length, .slice (some ⟨w.heap.size + 1, 0, none⟩) ((bs.length + 7) / 8) ((bs.length + 7) / 8)]
      rw [World.size_alloc, World.size_alloc] at this
      exact this
  case round =>
    clear hd
    obtain ⟨k, hk, rfl, HB, HX, HY, HK⟩ := hrel
    by_cases hlt : k < bs.length
    · obtain ⟨b, off, rfl, hc, hb⟩ := HR.out.boolAt (by omega)
      have hcell := HK.out.later (hc k hlt)
      clear hc
      have hy1 := HY.out.cell 1 _ rfl
      obtain ⟨y, hy⟩ : ∃ y, bs.getD k false = y := ⟨_, rfl⟩
      rw [hy] at hcell
      have HYY := Lib.hid hy
      clear hy
      cases y
      · go_wp2_with fail
        go_roundw
        case rel => exact ⟨k + 1, by omega, by go_num, by rw [ofTo_no _ _ hlt HYY.out]; exact HB.out, HX, HY, HK⟩
        case measure => simp [intOf]; omega
      · have hbc := HB.out.cell (k / 8) (by rw [pack_len, ofTo_len _ _ hk]; omega)
        have hbf := HB.out.frozen (k / 8)
        have hv := getD_lt (pack_lt (ofTo bs k)) (k / 8)
        have HP := Lib.hid (pack_set (ofTo bs k) k (by rw [ofTo_len _ _ hk]; omega))
        obtain ⟨v, hvv⟩ : ∃ v, v = (pack (ofTo bs k)).getD (k / 8) 0 := ⟨_, rfl⟩
        rw [← hvv] at hbc hv HP
        clear hvv
        have HO := Lib.hid (or_pow v k hv)
        have hi1 : (k : Int) / 8 < (((bs.length + 7) / 8 : Nat) : Int) := by omega
        go_wp2_with fail
        go_roundw
        case rel =>
          refine ⟨k + 1, by omega, by go_num, ?_, ?_, ?_, ?_⟩
          · rw [ofTo_yes _ _ hlt HYY.out, ← HP.out]
            exact HB.out.put _ _ _ HO.out
          · exact HX.out.keepsBut (KeepsBut.setCell _ _ _ _) (by omega)
          · exact HY.out.keepsBut (KeepsBut.setCell _ _ _ _) (by omega)
          · exact HK.out.setCell (by simp) _
        case measure => simp [intOf]; omega
    · obtain rfl : k = bs.length := by omega
      have hx0 := HX.out.cell 0 _ rfl
      have hx1 := HX.out.cell 1 _ rfl
      have hxf := HX.out.frozen
      have hy0 := HY.out.cell 0 _ rfl
      have hy1 := HY.out.cell 1 _ rfl
      go_wp2_with fail
      refine bodyPost_ret (by simp [results, Try.results88, go_sem, *]) rfl ⟨⟨bs.length, some ⟨w.heap.size + 1, 0, none⟩, (bs.length + 7) / 8, (bs.length + 7) / 8, pack bs⟩, rfl, ?_, fun a ha => by cases ha; exact Nat.le_succ _, ?_⟩
      · have := HB.out
        rw [ofTo_all] at this
        exact ((this.keepsBut (KeepsBut.setCell _ _ _ _) (by omega)).keepsBut (KeepsBut.setCell _ _ _ _) (by omega)).is hm _ (Nat.le_refl _) (by omega)
      · exact (HK.out.setCell (Nat.le_refl _) _).setCell (Nat.le_refl _) _
end Go.Proofs.Ytdjbalaicfienaa
