/- The walks of package bits, 4: Put. -/
import Derived.Test.YtdjbalaicfienaaW2
import Derived.Test.YtdjbalaicfienaaW10
import Derived.Test.YtdjbalaicfienaaW3
import Derived.Test.YtdjbalaicfienaaBase2
import Derived.Test.YtdjbalaicfienaaPlainBits2
namespace Go.Proofs.Ytdjbalaicfienaa
open Go.RowKit
set_option linter.unusedVariables false
set_option linter.unusedSimpArgs false

/-- may a number and a width be? -/
def putArg (v : Nat) (width : Int) : Bool := decide (0 ≤ width) && (decide (width ≤ 64) && decide (v < 2 ^ width.toNat))

set_option maxHeartbeats 400000 in
theorem put_bad (x : RB) (v : Nat) (wv : Int) (w : World) (hx : x.In w) (hc : chk x.n x.l = false) :
    Calls Try.prog 62 #[x.val, .int .u64 v, .int .i64 wv] w fun e w' => e = .returned (.tuple #[RB.zero.val, .int .i64 10]) ∧ Keeps w w' := by
  have HX := Lib.hid hx
  have HC := Lib.hid hc
  clear hx hc
  obtain ⟨n, a, len, cap, l⟩ := x
  show Calls Try.prog 62 #[.agg #[.int .i64 n, .slice a len cap], .int .u64 v, .int .i64 wv] w _
  go_enter Try.func62, Try.ntmps62
  go_wp2_with fail
  with_reducible refine (check_no ⟨n, a, len, cap, l⟩ _ (by exact HX.out.keeps (((Keeps.refl w).alloc _).alloc _)) HC.out).mono ?_
  rintro e w1 ⟨rfl, hk1⟩
  have hb := (Box.new (w.alloc (.cells #[.int .i64 n, .slice a len cap] 26)) 26 #[.int .i64 0, .slice none 0 0]).keeps hk1
  rw [World.size_alloc] at hb
  have hx0 := hb.cell 0 _ rfl
  have hx1 := hb.cell 1 _ rfl
  have hxf := hb.frozen
  have HK := Lib.hid (((Keeps.refl w).alloc _).alloc _ |>.trans hk1)
  clear hk1 hb
  go_wp2_with fail
  refine bodyPost_ret (by simp [results, Try.results62, go_sem, RB.zero, *]) rfl ⟨rfl, (HK.out.setCell (by simp) _).setCell (by simp) _⟩

set_option maxHeartbeats 1000000 in
theorem put_arg (x : RB) (v : Nat) (wv : Int) (w : World) (hx : x.In w) (hc : chk x.n x.l = true) (ha : putArg v wv = false) (hv : v < 18446744073709551616) :
    Calls Try.prog 62 #[x.val, .int .u64 v, .int .i64 wv] w fun e w' => e = .returned (.tuple #[RB.zero.val, .int .i64 2]) ∧ Keeps w w' := by
  have HX := Lib.hid hx
  have HC := Lib.hid hc
  clear hx hc
  obtain ⟨n, a, len, cap, l⟩ := x
  simp only [putArg, Bool.and_eq_false_iff, decide_eq_false_iff_not] at ha
  show Calls Try.prog 62 #[.agg #[.int .i64 n, .slice a len cap], .int .u64 v, .int .i64 wv] w _
  by_cases h1 : wv < 0
  · have hd1 : decide (wv < 0) = true := by simpa using h1
    clear ha
    go_enter Try.func62, Try.ntmps62
    go_wp2_with fail
    with_reducible refine (check_yes ⟨n, a, len, cap, l⟩ _ (by exact HX.out.keeps (((Keeps.refl w).alloc _).alloc _)) HC.out).mono ?_
    rintro e w1 ⟨rfl, hk1⟩
    have hb := (Box.new (w.alloc (.cells #[.int .i64 n, .slice a len cap] 26)) 26 #[.int .i64 0, .slice none 0 0]).keeps hk1
    rw [World.size_alloc] at hb
    have hx0 := hb.cell 0 _ rfl
    have hx1 := hb.cell 1 _ rfl
    have hxf := hb.frozen
    have HK := Lib.hid (((Keeps.refl w).alloc _).alloc _ |>.trans hk1)
    clear hk1 hb
    go_wp2_with fail
    refine bodyPost_ret (by simp [results, Try.results62, go_sem, RB.zero, *]) rfl ⟨rfl, (HK.out.setCell (by simp) _).setCell (by simp) _⟩
  have hd1 : decide (wv < 0) = false := by simpa using h1
  by_cases h2 : 64 < wv
  · have hd2 : decide (64 < wv) = true := by simpa using h2
    clear ha
    go_enter Try.func62, Try.ntmps62
    go_wp2_with fail
    with_reducible refine (check_yes ⟨n, a, len, cap, l⟩ _ (by exact HX.out.keeps (((Keeps.refl w).alloc _).alloc _)) HC.out).mono ?_
    rintro e w1 ⟨rfl, hk1⟩
    have hb := (Box.new (w.alloc (.cells #[.int .i64 n, .slice a len cap] 26)) 26 #[.int .i64 0, .slice none 0 0]).keeps hk1
    rw [World.size_alloc] at hb
    have hx0 := hb.cell 0 _ rfl
    have hx1 := hb.cell 1 _ rfl
    have hxf := hb.frozen
    have HK := Lib.hid (((Keeps.refl w).alloc _).alloc _ |>.trans hk1)
    clear hk1 hb
    go_wp2_with fail
    refine bodyPost_ret (by simp [results, Try.results62, go_sem, RB.zero, *]) rfl ⟨rfl, (HK.out.setCell (by simp) _).setCell (by simp) _⟩
  have hd2 : decide (64 < wv) = false := by simpa using h2
  obtain ⟨m, rfl⟩ := Int.eq_ofNat_of_zero_le (show 0 ≤ wv by omega)
  rw [Int.toNat_natCast] at ha
  have h4 : ¬ v < 2 ^ m := by
    rcases ha with ha | ha | ha
    · omega
    · omega
    · exact ha
  have h3 : (m : Int) < 64 := by
    by_cases h : m = 64
    · subst h; omega
    · omega
  have hd3 : decide ((m : Int) < 64) = true := by simpa using h3
  have hd4 : ((v : Int) / 2 ^ m != 0) = true := by
    rw [bne_iff_ne]
    have hp : 0 < 2 ^ m := Nat.pow_pos (by decide)
    have : 0 < v / 2 ^ m := Nat.div_pos (by omega) hp
    have e : ((v : Int) / 2 ^ m) = ((v / 2 ^ m : Nat) : Int) := by simp
    rw [e]; omega
  clear ha h4
  go_enter Try.func62, Try.ntmps62
  go_wp2_with fail
  with_reducible refine (check_yes ⟨n, a, len, cap, l⟩ _ (by exact HX.out.keeps (((Keeps.refl w).alloc _).alloc _)) HC.out).mono ?_
  rintro e w1 ⟨rfl, hk1⟩
  have hb := (Box.new (w.alloc (.cells #[.int .i64 n, .slice a len cap] 26)) 26 #[.int .i64 0, .slice none 0 0]).keeps hk1
  rw [World.size_alloc] at hb
  have hx0 := hb.cell 0 _ rfl
  have hx1 := hb.cell 1 _ rfl
  have hxf := hb.frozen
  have HK := Lib.hid (((Keeps.refl w).alloc _).alloc _ |>.trans hk1)
  clear hk1 hb
  go_wp2_with fail
  refine bodyPost_ret (by simp [results, Try.results62, go_sem, RB.zero, *]) rfl ⟨rfl, (HK.out.setCell (by simp) _).setCell (by simp) _⟩

/-- the first bits put -/
def putTo (bs : List Bool) (v width k : Nat) : List Bool := bs ++ ofTo (numBits v width) k
theorem putTo_zero (bs : List Bool) (v width : Nat) : putTo bs v width 0 = bs ++ List.replicate width false := by
  unfold putTo; rw [ofTo_zero, numBits_len]
theorem putTo_all (bs : List Bool) (v width : Nat) : putTo bs v width width = bs ++ numBits v width := by
  unfold putTo
  have := ofTo_all (numBits v width)
  rw [numBits_len] at this
  rw [this]
theorem putTo_len (bs : List Bool) (v width k : Nat) (h : k ≤ width) : (putTo bs v width k).length = bs.length + width := by
  unfold putTo
  rw [List.length_append, ofTo_len _ _ (by rw [numBits_len]; exact h), numBits_len]
theorem putTo_yes (bs : List Bool) (v width k : Nat) (h : k < width) (hb : v.testBit (width - 1 - k) = true) : putTo bs v width (k + 1) = (putTo bs v width k).set (bs.length + k) true := by
  unfold putTo
  rw [ofTo_yes _ _ (by rw [numBits_len]; exact h) (by rw [numBits_getD _ _ _ h]; exact hb), List.set_append_right _ _ (by omega)]
  congr 2
  omega
theorem putTo_no (bs : List Bool) (v width k : Nat) (h : k < width) (hb : v.testBit (width - 1 - k) = false) : putTo bs v width (k + 1) = putTo bs v width k := by
  unfold putTo
  rw [ofTo_no _ _ (by rw [numBits_len]; exact h) (by rw [numBits_getD _ _ _ h]; exact hb)]

theorem and_one_test (v k : Nat) (hv : v < 18446744073709551616) : (bits .and .u64 ((v : Int) / 2 ^ k) 1 == 1) = v.testBit k := by
  have e : ((v : Int) / 2 ^ k) = ((v / 2 ^ k : Nat) : Int) := by simp
  have hle : v / 2 ^ k ≤ v := Nat.div_le_self _ _
  rw [e, show (1 : Int) = ((1 : Nat) : Int) from rfl, u64_and_nat _ _ (by omega) (by decide), nat_mask1, Nat.testBit_eq_decide_div_mod_eq]
  by_cases h : v / 2 ^ k % 2 = 1
  · simp [h]
  · simp only [h, decide_false, beq_eq_false_iff_ne, ne_eq]; omega
theorem pow_64 {v width : Nat} (h : width ≤ 64) (hv : v < 2 ^ width) : v < 18446744073709551616 := by
  have : 2 ^ width ≤ 2 ^ 64 := Nat.pow_le_pow_right (by decide) h
  omega
theorem Blk.is' {w : World} {g : Nat} {bs : List Bool} (h : Blk w .u8 5 g (pack bs)) (n : Nat) (hn : bs.length = n) (hm : n ≤ 4096) (cap : Nat) (hc1 : (n + 7) / 8 ≤ cap) (hc2 : cap ≤ 9223372036854775807) :
    RB.Is ⟨n, some ⟨g, 0, none⟩, (n + 7) / 8, cap, pack bs⟩ w bs := by
  subst hn; exact h.is hm cap hc1 hc2
theorem set_ok (n : Int) (g m cap : Nat) (bs : List Bool) (iv : Int) (i : Nat) (w : World) (hiv : iv = i) (hg : Blk w .u8 5 g (pack bs)) (hm : m = (bs.length + 7) / 8) (hi : i < bs.length) (hcap : m ≤ cap) (hmax : cap ≤ 9223372036854775807) (h4 : bs.length ≤ 1000000) :
    Calls Try.prog 93 #[.agg #[.int .i64 n, .slice (some ⟨g, 0, none⟩) m cap], .int .i64 iv] w fun e w' =>
      e = .returned (.tuple #[]) ∧ Blk w' .u8 5 g (pack (bs.set i true)) ∧ KeepsBut g w w' := by
  subst hiv
  have h := set_any n g m cap (pack bs) i w hg (by rw [pack_len]; exact hm.symm) (by omega) hcap hmax (by omega) (pack_lt bs)
  have e := pack_set bs i hi
  unfold maskN at h
  rw [e] at h
  exact h

set_option maxHeartbeats 1000000 in
theorem put_long (x : RB) (bs : List Bool) (v : Nat) (wv : Int) (w : World) (hx : x.Is w bs) (ha : putArg v wv = true) (hl : 4096 < bs.length + wv.toNat) :
    Calls Try.prog 62 #[x.val, .int .u64 v, .int .i64 wv] w fun e w' => e = .returned (.tuple #[RB.zero.val, .int .i64 3]) ∧ Keeps w w' := by
  have HC := Lib.hid hx.chk
  have HX := Lib.hid hx
  have hmost := hx.most
  obtain ⟨a, cap, rfl⟩ := hx.shape
  clear hx
  simp only [putArg, Bool.and_eq_true, decide_eq_true_eq] at ha
  obtain ⟨ha1, ha2, hv⟩ := ha
  obtain ⟨width, rfl⟩ := Int.eq_ofNat_of_zero_le ha1
  rw [Int.toNat_natCast] at hl hv
  have hd1 : decide ((width : Int) < 0) = false := by simp
  have hd2 : decide ((64 : Int) < width) = false := by simp; omega
  have hd4 : ((v : Int) / 2 ^ width != 0) = false := by
    rw [bne_eq_false_iff_eq]
    have e : ((v : Int) / 2 ^ width) = ((v / 2 ^ width : Nat) : Int) := by simp
    rw [e, Nat.div_eq_of_lt hv]; rfl
  have hd5 : decide ((4096 : Int) - bs.length < width) = true := by simp; omega
  show Calls Try.prog 62 #[.agg #[.int .i64 bs.length, .slice a ((bs.length + 7) / 8) cap], .int .u64 v, .int .i64 width] w _
  by_cases h3 : (width : Int) < 64
  all_goals
    first
      | have hd3 : decide ((width : Int) < 64) = true := by simpa using h3
      | have hd3 : decide ((width : Int) < 64) = false := by simpa using h3
    go_enter Try.func62, Try.ntmps62
    go_wp2_with fail
    with_reducible refine (check_yes ⟨bs.length, a, (bs.length + 7) / 8, cap, pack bs⟩ _ (by exact HX.out.isIn.keeps (((Keeps.refl w).alloc _).alloc _)) HC.out).mono ?_
    rintro e w1 ⟨rfl, hk1⟩
    have hbx := (Box.new (w.alloc (.cells #[.int .i64 bs.length, .slice a ((bs.length + 7) / 8) cap] 26)) 26 #[.int .i64 0, .slice none 0 0]).keeps hk1
    have hbb := ((Box.new w 26 #[.int .i64 bs.length, .slice a ((bs.length + 7) / 8) cap]).next (.cells #[.int .i64 0, .slice none 0 0] 26)).keeps hk1
    rw [World.size_alloc] at hbx
    have hb0 := hbb.cell 0 _ rfl
    have hb1 := hbb.cell 1 _ rfl
    have hx0 := hbx.cell 0 _ rfl
    have hx1 := hbx.cell 1 _ rfl
    have hxf := hbx.frozen
    have HK1 := Lib.hid (((Keeps.refl w).alloc _).alloc _ |>.trans hk1)
    clear hk1 hbx hbb
    go_wp2_with fail
    refine bodyPost_ret (by simp [results, Try.results62, go_sem, RB.zero, *]) rfl ⟨rfl, (HK1.out.setCell (by simp) _).setCell (by simp) _⟩
set_option maxHeartbeats 1000000 in
set_option maxRecDepth 100000 in
theorem put_ok (x : RB) (bs : List Bool) (v : Nat) (wv : Int) (width : Nat) (w : World) (hwv : wv = width) (hx : x.Is w bs) (h64 : width ≤ 64) (hv : v < 2 ^ width) (hl : bs.length + width ≤ 4096) :
    Calls Try.prog 62 #[x.val, .int .u64 v, .int .i64 wv] w fun e w' => ∃ y : RB, e = .returned (.tuple #[y.val, .int .i64 0]) ∧ y.Is w' (bs ++ numBits v width) ∧ y.Fr w.heap.size ∧ Keeps w w' := by
  subst hwv
  have HC := Lib.hid hx.chk
  have HX := Lib.hid hx
  obtain ⟨a, cap, rfl⟩ := hx.shape
  clear hx
  have hd1 : decide ((width : Int) < 0) = false := by simp
  have hd2 : decide ((64 : Int) < width) = false := by simp; omega
  have hd4 : ((v : Int) / 2 ^ width != 0) = false := by
    rw [bne_eq_false_iff_eq]
    have e : ((v : Int) / 2 ^ width) = ((v / 2 ^ width : Nat) : Int) := by simp
    rw [e, Nat.div_eq_of_lt hv]; rfl
  have hd5 : decide ((4096 : Int) - bs.length < width) = false := by simp; omega
  show Calls Try.prog 62 #[.agg #[.int .i64 bs.length, .slice a ((bs.length + 7) / 8) cap], .int .u64 v, .int .i64 width] w _
  by_cases h3 : (width : Int) < 64
  all_goals
    first
      | have hd3 : decide ((width : Int) < 64) = true := by simpa using h3
      | have hd3 : decide ((width : Int) < 64) = false := by simpa using h3
    go_enter Try.func62, Try.ntmps62
    go_wp2_with fail
    with_reducible refine (check_yes ⟨bs.length, a, (bs.length + 7) / 8, cap, pack bs⟩ _ (by exact HX.out.isIn.keeps (((Keeps.refl w).alloc _).alloc _)) HC.out).mono ?_
    rintro e w1 ⟨rfl, hk1⟩
    have hbx := (Box.new (w.alloc (.cells #[.int .i64 bs.length, .slice a ((bs.length + 7) / 8) cap] 26)) 26 #[.int .i64 0, .slice none 0 0]).keeps hk1
    have hbb := ((Box.new w 26 #[.int .i64 bs.length, .slice a ((bs.length + 7) / 8) cap]).next (.cells #[.int .i64 0, .slice none 0 0] 26)).keeps hk1
    rw [World.size_alloc] at hbx
    have hb0 := hbb.cell 0 _ rfl
    have hb1 := hbb.cell 1 _ rfl
    have HK1 := Lib.hid (((Keeps.refl w).alloc _).alloc _ |>.trans hk1)
    have HBX := Lib.hid hbx
    have HBB := Lib.hid hbb
    clear hk1 hbx hbb
    go_wp2_with fail
    with_reducible refine (grown_any ⟨bs.length, a, (bs.length + 7) / 8, cap, pack bs⟩ bs _ width _ (by omega) (by exact HX.out.keeps HK1.out) (by omega)).mono ?_
    rintro e w2 ⟨g, rfl, hblk, hg, hk2⟩
    have HBX2 := Lib.hid (HBX.out.keeps hk2)
    have HBB2 := Lib.hid (HBB.out.keeps hk2)
    have HBL2 := Lib.hid hblk
    have HK2 := Lib.hid (HK1.out.trans hk2)
    have hs1 := HBX.out.lt
    have hs2 := hblk.lt
    clear hk2 hblk hb0 hb1 HK1 HBX HBB
    go_wp2_with fail
    clear hd1 hd2 hd3 hd4 hd5
    go_loopw [44] (fun i wr => ∃ k : Nat, k ≤ width ∧ i = .int .i64 k ∧ Hid (Blk wr .u8 5 g (pack (putTo bs v width k))) ∧ Hid (Box wr (w.heap.size + 1) 26 #[.int .i64 0, .slice none 0 0]) ∧
        Hid (Box wr w.heap.size 26 #[.int .i64 bs.length, .slice a ((bs.length + 7) / 8) cap]) ∧
        Hid (Box wr w2.heap.size 26 #[.int .i64 (bs.length + width), .slice (some ⟨g, 0, none⟩) ((bs.length + width + 7) / 8) ((bs.length + width + 7) / 8)]) ∧ Hid (Keeps w wr)) (fun i _ => width - (intOf i).toNat)
    case atStart => exact ⟨0, by omega, rfl, by rw [putTo_zero]; exact HBL2.out.next _, HBX2.out.next _, HBB2.out.next _, Box.new _ _ _, HK2.out.alloc _⟩
    case round =>
      clear HBX2 HBB2 HBL2 HK2
      obtain ⟨k, hk, rfl, HB, HX1, HX2, HX3, HK⟩ := hrel
      by_cases hlt : k < width
      · have hb0 := HX2.out.cell 0 _ rfl
        have hc0 := HX3.out.cell 0 _ rfl
        have hc1 := HX3.out.cell 1 _ rfl
        obtain ⟨t, ht⟩ : ∃ t, v.testBit (width - 1 - k) = t := ⟨_, rfl⟩
        have htest := and_one_test v (width - 1 - k) (pow_64 h64 hv)
        rw [ht] at htest
        have HT := Lib.hid ht
        clear ht
        cases t
        · go_wp2_with fail
          go_roundw
          case rel => exact ⟨k + 1, by omega, by go_num, by rw [putTo_no _ _ _ _ hlt HT.out]; exact HB.out, HX1, HX2, HX3, HK⟩
          case measure => simp [intOf]; omega
        · go_wp2_with fail
          with_reducible refine (set_ok _ g _ _ (putTo bs v width k) _ (bs.length + k) _ (by omega) HB.out (by rw [putTo_len _ _ _ _ hk]) (by rw [putTo_len _ _ _ _ hk]; omega) (Nat.le_refl _) (by omega) (by rw [putTo_len _ _ _ _ hk]; omega)).mono ?_
          rintro e w3 ⟨rfl, hbl, hkb⟩
          have HB3 : Hid (Blk w3 .u8 5 g (pack (putTo bs v width (k + 1)))) := by
            rw [putTo_yes _ _ _ _ hlt HT.out]; exact hbl
          have HX13 := Lib.hid (HX1.out.keepsBut hkb (by omega))
          have HX23 := Lib.hid (HX2.out.keepsBut hkb (by omega))
          have HX33 := Lib.hid (HX3.out.keepsBut hkb (by omega))
          have HK3 := Lib.hid (KeepsBut.keeps HK.out hkb (by omega))
          clear hbl hkb hb0 hc0 hc1 HB HX1 HX2 HX3 HK
          go_wp2_with fail
          go_roundw
          case rel => exact ⟨k + 1, by omega, by go_num, HB3, HX13, HX23, HX33, HK3⟩
          case measure => simp [intOf]; omega
      · obtain rfl : k = width := by omega
        have hx0 := HX1.out.cell 0 _ rfl
        have hx1 := HX1.out.cell 1 _ rfl
        have hxf := HX1.out.frozen
        have hc0 := HX3.out.cell 0 _ rfl
        have hc1 := HX3.out.cell 1 _ rfl
        go_wp2_with fail
        refine bodyPost_ret (by simp [results, Try.results62, go_sem, *]) rfl ⟨⟨(bs.length + k : Nat), some ⟨g, 0, none⟩, (bs.length + k + 7) / 8, (bs.length + k + 7) / 8, pack (bs ++ numBits v k)⟩, rfl, ?_, fun a ha => by cases ha; simp only; omega, ?_⟩
        · have hb := HB.out
          rw [putTo_all] at hb
          have hl2 : (bs ++ numBits v k).length = bs.length + k := by rw [List.length_append, numBits_len]
          exact ((hb.keepsBut (KeepsBut.setCell _ _ _ _) (by omega)).keepsBut (KeepsBut.setCell _ _ _ _) (by omega)).is' _ hl2 hl _ (Nat.le_refl _) (by omega)
        · exact (HK.out.setCell (by simp) _).setCell (by simp) _
end Go.Proofs.Ytdjbalaicfienaa
