/- The walks of package bits, 7: Flip. -/
import Derived.Test.YtkbdpdcandpfdaaW20
import Derived.Test.YtkbdpdcandpfdaaW19
namespace Go.Proofs.Ytkbdpdcandpfdaa
open Go.RowKit
set_option linter.unusedVariables false
set_option linter.unusedSimpArgs false

theorem xor_mask (x i : Nat) (hx : x < 256) : bits .xor .u8 (x : Int) (maskN i : Int) = ((x ^^^ maskN i : Nat) : Int) := u8_xor_nat _ _ hx (pow_lt_256 i)

theorem grown0_any (x : RB) (bs : List Bool) (v : Int) (w : World) (hv : v = 0) (hx : x.Is w bs) :
    Calls Try.prog 58 #[x.val, .int .i64 v] w fun e w' => ∃ g, e = .returned (.agg #[.int .i64 bs.length, .slice (some ⟨g, 0, none⟩) ((bs.length + 7) / 8) ((bs.length + 7) / 8)]) ∧
      Blk w' .u8 5 g (pack bs) ∧ w.heap.size ≤ g ∧ Keeps w w' := by
  have hm := hx.most
  have := grown_any x bs v 0 w (by omega) hx (by omega)
  simpa using this

set_option maxHeartbeats 400000 in
theorem flip_bad (x : RB) (v : Value) (w : World) (hx : x.In w) (hc : chk x.n x.l = false) :
    Calls Try.prog 51 #[x.val, v] w fun e w' => e = .returned (.tuple #[RB.zero.val, .int .i64 10]) ∧ Keeps w w' := by
  have HX := Lib.hid hx
  have HC := Lib.hid hc
  clear hx hc
  obtain ⟨n, a, len, cap, l⟩ := x
  show Calls Try.prog 51 #[.agg #[.int .i64 n, .slice a len cap], v] w _
  go_enter Try.func51, Try.ntmps51
  go_wp2_with fail
  with_reducible refine (check_no ⟨n, a, len, cap, l⟩ _ (by exact HX.out.keeps (((Keeps.refl w).alloc _).alloc _)) HC.out).mono ?_
  rintro e w1 ⟨rfl, hk1⟩
  have hb := (Box.new (w.alloc (.cells #[.int .i64 n, .slice a len cap] 32)) 32 #[.int .i64 0, .slice none 0 0]).keeps hk1
  rw [World.size_alloc] at hb
  have hx0 := hb.cell 0 _ rfl
  have hx1 := hb.cell 1 _ rfl
  have hxf := hb.frozen
  have HK := Lib.hid (((Keeps.refl w).alloc _).alloc _ |>.trans hk1)
  clear hk1 hb
  go_wp2_with fail
  refine bodyPost_ret (by simp [results, Try.results51, go_sem, RB.zero, *]) rfl ⟨rfl, (HK.out.setCell (by simp) _).setCell (by simp) _⟩

set_option maxHeartbeats 2000000 in
set_option maxRecDepth 100000 in
theorem flip_ok (x : RB) (bs : List Bool) (v : Value) (zs : List Int) (w : World) (hx : x.Is w bs) (hz : Ints w v zs) :
    Calls Try.prog 51 #[x.val, v] w fun e w' => Res w w' e (flipIs bs zs) := by
  have HC := Lib.hid hx.chk
  have HX := Lib.hid hx
  have hmost := hx.most
  obtain ⟨a, cap, rfl⟩ := hx.shape
  clear hx
  obtain ⟨za, zcap, rfl, hzc, hzm, hzr⟩ := hz.shape
  have HZ := Lib.hid hzr
  clear hz hzr
  show Calls Try.prog 51 #[.agg #[.int .i64 bs.length, .slice a ((bs.length + 7) / 8) cap], .slice za zs.length zcap] w _
  go_enter Try.func51, Try.ntmps51
  go_wp2_with fail
  with_reducible refine (check_yes ⟨bs.length, a, (bs.length + 7) / 8, cap, pack bs⟩ _ (by exact HX.out.isIn.keeps (((Keeps.refl w).alloc _).alloc _)) HC.out).mono ?_
  rintro e w1 ⟨rfl, hk1⟩
  have hbx := (Box.new (w.alloc (.cells #[.int .i64 bs.length, .slice a ((bs.length + 7) / 8) cap] 32)) 32 #[.int .i64 0, .slice none 0 0]).keeps hk1
  have hbb := ((Box.new w 32 #[.int .i64 bs.length, .slice a ((bs.length + 7) / 8) cap]).next (.cells #[.int .i64 0, .slice none 0 0] 32)).keeps hk1
  rw [World.size_alloc] at hbx
  have hb0 := hbb.cell 0 _ rfl
  have hb1 := hbb.cell 1 _ rfl
  have hs1 := hbx.lt
  have HK1 := Lib.hid (((Keeps.refl w).alloc _).alloc _ |>.trans hk1)
  have HBX := Lib.hid hbx
  have HBB := Lib.hid hbb
  clear hk1 hbx hbb
  go_wp2_with fail
  with_reducible refine (grown0_any ⟨bs.length, a, (bs.length + 7) / 8, cap, pack bs⟩ bs _ _ (by omega) (by exact HX.out.keeps HK1.out)).mono ?_
  rintro e w2 ⟨g, rfl, hblk, hg, hk2⟩
  have HBX2 := Lib.hid (HBX.out.keeps hk2)
  have HBB2 := Lib.hid (HBB.out.keeps hk2)
  have HBL2 := Lib.hid hblk
  have HK2 := Lib.hid (HK1.out.trans hk2)
  have hgl2 := hblk.lt
  clear hk2 hblk hb0 hb1 HK1 HBX HBB
  go_wp2_with fail
  go_loopw [20] (fun i wr => ∃ k : Nat, k ≤ zs.length ∧ i = .int .i64 k ∧ Hid (∀ j, j < k → inN bs.length (zs.getD j 0) = true) ∧ Hid (Blk wr .u8 5 g (pack (flips bs zs k))) ∧
      Hid (Box wr (w.heap.size + 1) 32 #[.int .i64 0, .slice none 0 0]) ∧ Hid (Box wr w.heap.size 32 #[.int .i64 bs.length, .slice a ((bs.length + 7) / 8) cap]) ∧
      Hid (Box wr w2.heap.size 32 #[.int .i64 bs.length, .slice (some ⟨g, 0, none⟩) ((bs.length + 7) / 8) ((bs.length + 7) / 8)]) ∧ Hid (Keeps w wr)) (fun i _ => zs.length - (intOf i).toNat)
  case atStart => exact ⟨0, by omega, by simp, fun j hj => by omega, HBL2.out.next _, HBX2.out.next _, HBB2.out.next _, Box.new _ _ _, HK2.out.alloc _⟩
  case round =>
    clear HBX2 HBB2 HBL2 HK2
    obtain ⟨k, hk, rfl, HI, HB, HX1, HX2, HX3, HK⟩ := hrel
    by_cases hlt : k < zs.length
    · obtain ⟨zb, zo, rfl, hzc', hzb⟩ := HZ.out.intAt (by omega)
      have hcell := HK.out.later (hzc' k hlt)
      obtain ⟨z, hz⟩ : ∃ z, zs.getD k 0 = z := ⟨_, rfl⟩
      rw [hz] at hcell
      have HZE := Lib.hid hz
      clear hz hzc'
      have hb0 := HX2.out.cell 0 _ rfl
      have hx0 := HX1.out.cell 0 _ rfl
      have hx1 := HX1.out.cell 1 _ rfl
      have hxf := HX1.out.frozen
      have hc0 := HX3.out.cell 0 _ rfl
      have hc1 := HX3.out.cell 1 _ rfl
      by_cases hz0 : z < 0
      · have hd1 : decide (z < 0) = true := by simpa using hz0
        have hno : inN bs.length z = false := by simp only [inN, Bool.and_eq_false_iff, decide_eq_false_iff_not]; omega
        have HN := Lib.hid hno
        clear hno
        go_wp2_with fail
        refine bodyPost_ret (by simp [results, Try.results51, go_sem, RB.zero, *]) rfl (Res.no2 (flipIs_no bs zs k hlt (by rw [HZE.out]; exact HN.out)) ⟨rfl, (HK.out.setCell (by simp) _).setCell (by simp) _⟩)
      have hd1 : decide (z < 0) = false := by simpa using hz0
      obtain ⟨m, hm⟩ : ∃ m : Nat, z = m := ⟨z.toNat, by omega⟩
      subst hm
      by_cases hzn : bs.length ≤ m
      · have hd2 : decide ((bs.length : Int) ≤ m) = true := by simpa using hzn
        have hd3 : decide (bs.length ≤ m) = true := by simpa using hzn
        have hno : inN bs.length m = false := by simp only [inN, Bool.and_eq_false_iff, decide_eq_false_iff_not]; omega
        have HN := Lib.hid hno
        clear hno
        go_wp2_with fail
        refine bodyPost_ret (by simp [results, Try.results51, go_sem, RB.zero, *]) rfl (Res.no2 (flipIs_no bs zs k hlt (by rw [HZE.out]; exact HN.out)) ⟨rfl, (HK.out.setCell (by simp) _).setCell (by simp) _⟩)
      have hd2 : decide ((bs.length : Int) ≤ m) = false := by simpa using hzn
      have hd3 : decide (bs.length ≤ m) = false := by simpa using hzn
      have hyes : inN bs.length m = true := by simp only [inN, Bool.and_eq_true, decide_eq_true_eq]; omega
      have HI2 : Hid (∀ j, j < k + 1 → inN bs.length (zs.getD j 0) = true) := fun j hj => by
        by_cases h : j = k
        · subst h; rw [HZE.out]; exact hyes
        · exact HI.out j (by omega)
      clear hyes
      have hfl := flips_len bs zs k
      have hv := HB.out.cell (m / 8) (by rw [pack_len]; omega)
      have hf := HB.out.frozen (m / 8)
      have hgl := HB.out.lt
      have hbt := getD_lt (pack_lt (flips bs zs k)) (m / 8)
      have hpf := pack_flip (flips bs zs k) m (by omega)
      obtain ⟨y, hy⟩ : ∃ y, y = (pack (flips bs zs k)).getD (m / 8) 0 := ⟨_, rfl⟩
      rw [← hy] at hv hbt hpf
      have HO := Lib.hid (xor_mask y m hbt)
      have HPF := Lib.hid hpf
      clear hy hpf
      have hi1 : (m : Int) / 8 < (((bs.length + 7) / 8 : Nat) : Int) := by omega
      have hi0 : 0 ≤ (m : Int) / 8 := by omega
      go_wp2_with fail
      refine wp_region_quiet_tail_lit 10 (by kernel_rfl) (by kernel_rfl) ?_
      simp only [List.take_succ_cons, List.take_zero, List.drop_succ_cons, List.drop_zero]
      repeat (go_big_quiet_step ((go_at_call 67; exact Calls.quiet_of_same (mask_any _ _ (by omega)))))
      refine wpQuiet_nil ?_
      rintro _ ⟨nq, rfl⟩
      go_wp2_with fail
      have HKN := Lib.hid (HK.out.drewN nq)
      have HX1N := Lib.hid (HX1.out.keeps ((Keeps.refl wr).drewN nq))
      have HX2N := Lib.hid (HX2.out.keeps ((Keeps.refl wr).drewN nq))
      have HX3N := Lib.hid (HX3.out.keeps ((Keeps.refl wr).drewN nq))
      have HBN := Lib.hid (HB.out.keeps ((Keeps.refl wr).drewN nq))
      clear HB HX1 HX2 HX3 HK
      go_roundw
      case rel =>
        refine ⟨k + 1, by omega, by go_num, HI2, ?_, ?_, ?_, ?_, ?_⟩
        · rw [flips_succ _ _ _ hlt, HZE.out]
          unfold flip1
          rw [Int.toNat_natCast, ← HPF.out]
          exact HBN.out.put _ _ _ HO.out
        · exact HX1N.out.keepsBut (KeepsBut.setCell _ _ _ _) (by omega)
        · exact HX2N.out.keepsBut (KeepsBut.setCell _ _ _ _) (by omega)
        · exact HX3N.out.keepsBut (KeepsBut.setCell _ _ _ _) (by omega)
        · exact HKN.out.setCell (by simp; omega) _
      case measure => simp [intOf]; omega
    · obtain rfl : k = zs.length := by omega
      have hx0 := HX1.out.cell 0 _ rfl
      have hx1 := HX1.out.cell 1 _ rfl
      have hxf := HX1.out.frozen
      have hc0 := HX3.out.cell 0 _ rfl
      have hc1 := HX3.out.cell 1 _ rfl
      have HRES := Lib.hid (flipIs_yes bs zs HI.out)
      have hfl := flips_len bs zs zs.length
      go_wp2_with fail
      rw [HRES.out]
      refine bodyPost_ret (by simp [results, Try.results51, go_sem, *]) rfl ⟨⟨bs.length, some ⟨g, 0, none⟩, (bs.length + 7) / 8, (bs.length + 7) / 8, pack (flips bs zs zs.length)⟩, rfl, ?_, fun a ha => by cases ha; simp only; omega, ?_⟩
      · exact ((HB.out.keepsBut (KeepsBut.setCell _ _ _ _) (by omega)).keepsBut (KeepsBut.setCell _ _ _ _) (by omega)).is2 _ _ _ (by rw [hfl]) (by omega) (by rw [hfl]) (Nat.le_refl _) (by omega)
      · exact (HK.out.setCell (by simp) _).setCell (by simp) _

theorem flip_any (x : RB) (v : Value) (zs : List Int) (w : World) (hx : x.In w) (hz : Ints w v zs) :
    Calls Try.prog 51 #[x.val, v] w fun e w' => Res w w' e (flipRes x zs) := by
  cases hc : chk x.n x.l
  · exact (flip_bad x v w hx hc).mono fun e w' h => Res.no2 (by unfold flipRes; simp [hc]) h
  · rw [show flipRes x zs = flipIs x.bits zs by unfold flipRes; simp [hc]]
    exact flip_ok x x.bits v zs w (hx.is hc) hz
end Go.Proofs.Ytkbdpdcandpfdaa
