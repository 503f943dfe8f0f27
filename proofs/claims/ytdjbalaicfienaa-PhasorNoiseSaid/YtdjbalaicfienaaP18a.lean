/- bits.Of. -/
import Derived.Test.YtdjbalaicfienaaW15
import Derived.Test.YtdjbalaicfienaaW10
namespace Go.Proofs.Ytdjbalaicfienaa
open Go.RowKit
set_option linter.unusedVariables false
set_option linter.unusedSimpArgs false
theorem blank_bits (v : Int) (n : Nat) (w : World) (hv : v = n) (h1 : n ≤ 1000000) :
    Calls Try.prog 102 #[.int .i64 v] w fun e w' => ∃ g, e = .returned (.agg #[.int .i64 n, .slice (some ⟨g, 0, none⟩) ((n + 7) / 8) ((n + 7) / 8)]) ∧
      Blk w' .u8 5 g (pack (List.replicate n false)) ∧ w.heap.size ≤ g ∧ Keeps w w' := by
  rw [pack_blank]
  exact blank_any v n w hv h1
set_option maxHeartbeats 400000 in
theorem of_long (v : Value) (bs : List Bool) (w : World) (hl : Bools w v bs) (hm : 4096 < bs.length) :
    Calls Try.prog 86 #[v] w fun e w' => e = .returned (.tuple #[RB.zero.val, .int .i64 3]) ∧ Keeps w w' := by
  obtain ⟨a, cap, rfl, h1, h2, h3⟩ := hl.shape
  clear hl h3
  go_enter Try.func86, Try.ntmps86
  go_wp2_with fail
  refine bodyPost_ret (by simp [results, Try.results86, go_sem, RB.val, RB.zero]) rfl ⟨rfl, (Keeps.refl _).alloc _⟩

set_option maxRecDepth 100000 in
set_option maxHeartbeats 1000000 in
theorem of_ok (v : Value) (bs : List Bool) (w : World) (hl : Bools w v bs) (hm : bs.length ≤ 4096) :
    Calls Try.prog 86 #[v] w fun e w' => Res w w' e (bs, 0) := by
  obtain ⟨a, cap, rfl, h1, h2, h3⟩ := hl.shape
  have HR := Lib.hid h3
  clear hl h3
  have hd : decide ((4096 : Int) < bs.length) = false := by simp; omega
  have HZ := Lib.hid (Box.new w 26 #[.int .i64 0, .slice none 0 0])
  have HK := Lib.hid ((Keeps.refl w).alloc (.cells #[.int .i64 0, .slice none 0 0] 26))
  go_enter Try.func86, Try.ntmps86
  go_wp2_with fail
  with_reducible refine (blank_bits _ bs.length _ (by omega) (by omega)).mono ?_
  rintro e w1 ⟨g, rfl, hblk, hg, hk1⟩
  have HBL := Lib.hid hblk
  have HZ1 := Lib.hid (HZ.out.keeps hk1)
  have HK1 := Lib.hid (HK.out.trans hk1)
  have hs1 := HZ1.out.lt
  have hs2 := hblk.lt
  rw [World.size_alloc] at hg
  clear hk1 hblk HZ HK
  go_wp2_with fail
  clear hd
  go_loopw [16] (fun i wr => ∃ k : Nat, k ≤ bs.length ∧ i = .int .i64 k ∧ Hid (Blk wr .u8 5 g (pack (ofTo bs k))) ∧
      Hid (Box wr w.heap.size 26 #[.int .i64 0, .slice none 0 0]) ∧ Hid (Box wr w1.heap.size 26 #[.int .i64 bs.length, .slice (some ⟨g, 0, none⟩) ((bs.length + 7) / 8) ((bs.length + 7) / 8)]) ∧ Hid (Keeps w wr)) (fun i _ => bs.length - (intOf i).toNat)
  case atStart => exact ⟨0, by omega, rfl, by rw [ofTo_zero]; exact HBL.out.next _, HZ1.out.next _, Box.new _ _ _, HK1.out.alloc _⟩
  case round =>
    clear HBL HZ1 HK1
    obtain ⟨k, hk, rfl, HB, HX, HY, HK⟩ := hrel
    have hx0 := HX.out.cell 0 _ rfl
    have hx1 := HX.out.cell 1 _ rfl
    have hxf := HX.out.frozen
    have hy0 := HY.out.cell 0 _ rfl
    have hy1 := HY.out.cell 1 _ rfl
    have hxl := HX.out.lt
    by_cases hlt : k < bs.length
    · obtain ⟨b, off, rfl, hc, hb⟩ := (HR.out.keeps HK.out).boolAt (by omega)
      have hcell := hc k hlt
      clear hc
      obtain ⟨y, hy⟩ : ∃ y, bs.getD k false = y := ⟨_, rfl⟩
      rw [hy] at hcell
      have HG := Lib.hid hy
      clear hy
      have HLEN := Lib.hid (ofTo_len bs k hk)
      cases y
      · go_wp2_with fail
        go_roundw
        case rel => exact ⟨k + 1, by omega, by go_num, by rw [ofTo_no _ _ hlt HG.out]; exact HB.out, HX, HY, HK⟩
        case measure => simp [intOf]; omega
      · go_wp2_with fail
        with_reducible refine (set_ok _ g _ _ (ofTo bs k) _ k _ rfl HB.out (by rw [HLEN.out]) (by rw [HLEN.out]; omega) (Nat.le_refl _) (by omega) (by rw [HLEN.out]; omega)).mono ?_
        rintro e w3 ⟨rfl, hbl, hkb⟩
        have HB3 : Hid (Blk w3 .u8 5 g (pack (ofTo bs (k + 1)))) := by
          rw [ofTo_yes _ _ hlt HG.out]; exact hbl
        have HX3 := Lib.hid (HX.out.keepsBut hkb (by omega))
        have HY3 := Lib.hid (HY.out.keepsBut hkb (by omega))
        have HK3 := Lib.hid (KeepsBut.keeps HK.out hkb (by omega))
        clear hbl hkb hx0 hx1 hxf hy0 hy1 HB HX HY HK hcell
        go_wp2_with fail
        go_roundw
        case rel => exact ⟨k + 1, by omega, by go_num, HB3, HX3, HY3, HK3⟩
        case measure => simp [intOf]; omega
    · obtain rfl : k = bs.length := by omega
      go_wp2_with fail
      refine bodyPost_ret (by simp [results, Try.results86, go_sem, *]) rfl ⟨⟨bs.length, some ⟨g, 0, none⟩, (bs.length + 7) / 8, (bs.length + 7) / 8, pack bs⟩, rfl, ?_, fun a ha => by cases ha; simp only; omega, ?_⟩
      · have hb := HB.out
        rw [ofTo_all] at hb
        exact ((hb.keepsBut (KeepsBut.setCell _ _ _ _) (by omega)).keepsBut (KeepsBut.setCell _ _ _ _) (by omega)).is' _ rfl hm _ (Nat.le_refl _) (by omega)
      · exact (HK.out.setCell (by simp) _).setCell (by simp) _
theorem of_any (v : Value) (bs : List Bool) (w : World) (hl : Bools w v bs) : Calls Try.prog 86 #[v] w fun e w' => Res w w' e (ofRes bs) := by
  unfold ofRes
  by_cases h : bs.length ≤ 4096
  · rw [if_pos h]; exact of_ok v bs w hl h
  · rw [if_neg h]; exact (of_long v bs w hl (by omega)).mono fun e w' h => Res.no h

end Go.Proofs.Ytdjbalaicfienaa
