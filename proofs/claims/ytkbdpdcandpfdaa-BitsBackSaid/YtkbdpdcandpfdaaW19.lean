/- The walks of package bits, 6: Slice. -/
import Derived.Test.YtkbdpdcandpfdaaW17
import Derived.Test.YtkbdpdcandpfdaaW18
namespace Go.Proofs.Ytkbdpdcandpfdaa
open Go.RowKit
set_option linter.unusedVariables false
set_option linter.unusedSimpArgs false

theorem RB.Is.below {x : RB} {w : World} {bs : List Bool} (h : x.Is w bs) (h0 : 0 < bs.length) : ∀ a, x.a = some a → a.block < w.heap.size := fun b hb => by
  have hr := h.isIn.row
  have hl := h.len
  obtain ⟨b', o', hab, -, hbl⟩ := hr.addr (by omega)
  rw [hb] at hab
  simp only [Option.some.injEq] at hab
  subst hab
  exact hbl
theorem Blk.is2 {w : World} {g : Nat} {bs : List Bool} (h : Blk w .u8 5 g (pack bs)) (n : Int) (m cap : Nat) (hn : n = bs.length) (hm : bs.length ≤ 4096) (hlen : m = (bs.length + 7) / 8) (hc1 : m ≤ cap) (hc2 : cap ≤ 9223372036854775807) :
    RB.Is ⟨n, some ⟨g, 0, none⟩, m, cap, pack bs⟩ w bs := by
  subst hn hlen; exact h.is hm cap hc1 hc2

set_option maxHeartbeats 400000 in
theorem slice_bad (x : RB) (fv tv : Int) (w : World) (hx : x.In w) (hc : chk x.n x.l = false) :
    Calls Try.prog 48 #[x.val, .int .i64 fv, .int .i64 tv] w fun e w' => e = .returned (.tuple #[RB.zero.val, .int .i64 10]) ∧ Keeps w w' := by
  have HX := Lib.hid hx
  have HC := Lib.hid hc
  clear hx hc
  obtain ⟨n, a, len, cap, l⟩ := x
  show Calls Try.prog 48 #[.agg #[.int .i64 n, .slice a len cap], .int .i64 fv, .int .i64 tv] w _
  go_enter Try.func48, Try.ntmps48
  go_wp2_with fail
  with_reducible refine (check_no ⟨n, a, len, cap, l⟩ _ (by exact HX.out.keeps (((Keeps.refl w).alloc _).alloc _)) HC.out).mono ?_
  rintro e w1 ⟨rfl, hk1⟩
  have hb := (Box.new (w.alloc (.cells #[.int .i64 n, .slice a len cap] 32)) 32 #[.int .i64 0, .slice none 0 0]).keeps hk1
  rw [World.size_alloc] at hb
  have hx0 := hb.cell 0 _ rfl
  have hx1 := hb.cell 1 _ rfl
  have hxf := hb.frozen
  have HK := Lib.hid (((Keeps.refl w).alloc _).alloc _ |>.trans hk1)
  clear hk1 hb
  go_wp2_with fail
  refine bodyPost_ret (by simp [results, Try.results48, go_sem, RB.zero, *]) rfl ⟨rfl, (HK.out.setCell (by simp) _).setCell (by simp) _⟩

set_option maxHeartbeats 1000000 in
theorem slice_arg (x : RB) (fv tv : Int) (w : World) (hx : x.In w) (hc : chk x.n x.l = true) (ha : partOk x.n fv tv = false) :
    Calls Try.prog 48 #[x.val, .int .i64 fv, .int .i64 tv] w fun e w' => e = .returned (.tuple #[RB.zero.val, .int .i64 2]) ∧ Keeps w w' := by
  have HX := Lib.hid hx
  have HC := Lib.hid hc
  clear hx hc
  obtain ⟨n, a, len, cap, l⟩ := x
  simp only [partOk, Bool.and_eq_false_iff, decide_eq_false_iff_not] at ha
  show Calls Try.prog 48 #[.agg #[.int .i64 n, .slice a len cap], .int .i64 fv, .int .i64 tv] w _
  by_cases h1 : fv < 0
  · have hd1 : decide (fv < 0) = true := by simpa using h1
    clear ha
    go_enter Try.func48, Try.ntmps48
    go_wp2_with fail
    with_reducible refine (check_yes ⟨n, a, len, cap, l⟩ _ (by exact HX.out.keeps (((Keeps.refl w).alloc _).alloc _)) HC.out).mono ?_
    rintro e w1 ⟨rfl, hk1⟩
    have hb := (Box.new (w.alloc (.cells #[.int .i64 n, .slice a len cap] 32)) 32 #[.int .i64 0, .slice none 0 0]).keeps hk1
    have hbb := ((Box.new w 32 #[.int .i64 n, .slice a len cap]).next (.cells #[.int .i64 0, .slice none 0 0] 32)).keeps hk1
    rw [World.size_alloc] at hb
    have hb0 := hbb.cell 0 _ rfl
    have hx0 := hb.cell 0 _ rfl
    have hx1 := hb.cell 1 _ rfl
    have hxf := hb.frozen
    have HK := Lib.hid (((Keeps.refl w).alloc _).alloc _ |>.trans hk1)
    clear hk1 hb hbb
    go_wp2_with fail
    refine bodyPost_ret (by simp [results, Try.results48, go_sem, RB.zero, *]) rfl ⟨rfl, (HK.out.setCell (by simp) _).setCell (by simp) _⟩
  have hd1 : decide (fv < 0) = false := by simpa using h1
  by_cases h2 : tv < fv
  · have hd2 : decide (tv < fv) = true := by simpa using h2
    clear ha
    go_enter Try.func48, Try.ntmps48
    go_wp2_with fail
    with_reducible refine (check_yes ⟨n, a, len, cap, l⟩ _ (by exact HX.out.keeps (((Keeps.refl w).alloc _).alloc _)) HC.out).mono ?_
    rintro e w1 ⟨rfl, hk1⟩
    have hb := (Box.new (w.alloc (.cells #[.int .i64 n, .slice a len cap] 32)) 32 #[.int .i64 0, .slice none 0 0]).keeps hk1
    have hbb := ((Box.new w 32 #[.int .i64 n, .slice a len cap]).next (.cells #[.int .i64 0, .slice none 0 0] 32)).keeps hk1
    rw [World.size_alloc] at hb
    have hb0 := hbb.cell 0 _ rfl
    have hx0 := hb.cell 0 _ rfl
    have hx1 := hb.cell 1 _ rfl
    have hxf := hb.frozen
    have HK := Lib.hid (((Keeps.refl w).alloc _).alloc _ |>.trans hk1)
    clear hk1 hb hbb
    go_wp2_with fail
    refine bodyPost_ret (by simp [results, Try.results48, go_sem, RB.zero, *]) rfl ⟨rfl, (HK.out.setCell (by simp) _).setCell (by simp) _⟩
  have hd2 : decide (tv < fv) = false := by simpa using h2
  have h3 : n < tv := by omega
  have hd3 : decide (n < tv) = true := by simpa using h3
  clear ha
  go_enter Try.func48, Try.ntmps48
  go_wp2_with fail
  with_reducible refine (check_yes ⟨n, a, len, cap, l⟩ _ (by exact HX.out.keeps (((Keeps.refl w).alloc _).alloc _)) HC.out).mono ?_
  rintro e w1 ⟨rfl, hk1⟩
  have hb := (Box.new (w.alloc (.cells #[.int .i64 n, .slice a len cap] 32)) 32 #[.int .i64 0, .slice none 0 0]).keeps hk1
  have hbb := ((Box.new w 32 #[.int .i64 n, .slice a len cap]).next (.cells #[.int .i64 0, .slice none 0 0] 32)).keeps hk1
  rw [World.size_alloc] at hb
  have hb0 := hbb.cell 0 _ rfl
  have hx0 := hb.cell 0 _ rfl
  have hx1 := hb.cell 1 _ rfl
  have hxf := hb.frozen
  have HK := Lib.hid (((Keeps.refl w).alloc _).alloc _ |>.trans hk1)
  clear hk1 hb hbb
  go_wp2_with fail
  refine bodyPost_ret (by simp [results, Try.results48, go_sem, RB.zero, *]) rfl ⟨rfl, (HK.out.setCell (by simp) _).setCell (by simp) _⟩

set_option maxHeartbeats 1000000 in
set_option maxRecDepth 100000 in
theorem slice_ok (x : RB) (bs : List Bool) (fv tv : Int) (f t : Nat) (w : World) (hfv : fv = f) (htv : tv = t) (hx : x.Is w bs) (h1 : f ≤ t) (h2 : t ≤ bs.length) :
    Calls Try.prog 48 #[x.val, .int .i64 fv, .int .i64 tv] w fun e w' => Res w w' e (part bs f t, 0) := by
  subst hfv htv
  have HC := Lib.hid hx.chk
  have HX := Lib.hid hx
  have hmost := hx.most
  have hin := hx.isIn
  have hbel := hx.below
  obtain ⟨a, cap, rfl⟩ := hx.shape
  simp only at hbel
  clear hx
  have hd1 : decide ((f : Int) < 0) = false := by simp
  have hd2 : decide ((t : Int) < f) = false := by simp; omega
  have hd3 : decide ((bs.length : Int) < t) = false := by simp; omega
  have hd4 : decide (bs.length < t) = false := by simp; omega
  have hd5 : decide (t < f) = false := by simp; omega
  show Calls Try.prog 48 #[.agg #[.int .i64 bs.length, .slice a ((bs.length + 7) / 8) cap], .int .i64 f, .int .i64 t] w _
  go_enter Try.func48, Try.ntmps48
  go_wp2_with fail
  with_reducible refine (check_yes ⟨bs.length, a, (bs.length + 7) / 8, cap, pack bs⟩ _ (by exact HX.out.isIn.keeps (((Keeps.refl w).alloc _).alloc _)) HC.out).mono ?_
  rintro e w1 ⟨rfl, hk1⟩
  have hbx := (Box.new (w.alloc (.cells #[.int .i64 bs.length, .slice a ((bs.length + 7) / 8) cap] 32)) 32 #[.int .i64 0, .slice none 0 0]).keeps hk1
  have hbb := ((Box.new w 32 #[.int .i64 bs.length, .slice a ((bs.length + 7) / 8) cap]).next (.cells #[.int .i64 0, .slice none 0 0] 32)).keeps hk1
  rw [World.size_alloc] at hbx
  have hb0 := hbb.cell 0 _ rfl
  have hb1 := hbb.cell 1 _ rfl
  have hs1 := hbx.lt
  have HK1 := Lib.hid (((Keeps.refl w).alloc _).alloc _ |>.trans hk1)
  have HBX := Lib.hid hbx
  have HBB := Lib.hid hbb
  clear hk1 hbx hbb
  go_wp2_with fail
  with_reducible refine (blank_any _ (t - f) _ (by omega) (by omega)).mono ?_
  rintro e w2 ⟨g, rfl, hblk, hg, hk2⟩
  have e0 : (List.replicate ((t - f + 7) / 8) 0) = pack ([] ++ List.replicate (t - f) false) := by rw [List.nil_append, pack_blank]
  rw [e0] at hblk
  have HBX2 := Lib.hid (HBX.out.keeps hk2)
  have HBB2 := Lib.hid (HBB.out.keeps hk2)
  have HBL2 := Lib.hid hblk
  have HK2 := Lib.hid (HK1.out.trans hk2)
  have HBEL := Lib.hid hbel
  have hsw := HK1.out.size
  have hgl := hblk.lt
  clear hk2 hblk hb0 hb1 HK1 HBX HBB e0 hbel
  have hb0 := HBB2.out.cell 0 _ rfl
  have hb1 := HBB2.out.cell 1 _ rfl
  have hs2 := HBB2.out.lt
  clear hd1 hd2 hd3 hd4 hd5
  go_wp2_with fail
  with_reducible refine (into_any _ g _ _ [] (t - f) 0 f t f t ⟨bs.length, a, (bs.length + 7) / 8, cap, pack bs⟩ bs _ (by exact HBL2.out.next _) (by rw [List.length_nil, Nat.zero_add]) (Nat.le_refl _) (by omega) (by rw [List.length_nil]; omega) (by simp) (by simp) (by simp) (by exact HX.out.keeps (HK2.out.alloc _)) (by intro h0 a' ha'; have := HBEL.out h0 a' ha'; omega) h1 h2 (Nat.le_refl _)).mono ?_
  rw [List.nil_append, Nat.sub_self, List.replicate_zero, List.append_nil]
  rintro e w3 ⟨rfl, hb3, hkb⟩
  have hcx := (Box.new w2 32 #[.int .i64 (t - f : Nat), .slice (some ⟨g, 0, none⟩) ((t - f + 7) / 8) ((t - f + 7) / 8)]).keepsBut hkb (by omega)
  have hbx := (HBX2.out.next _).keepsBut hkb (by omega)
  have hc0 := hcx.cell 0 _ rfl
  have hc1 := hcx.cell 1 _ rfl
  have hx0 := hbx.cell 0 _ rfl
  have hx1 := hbx.cell 1 _ rfl
  have hxf := hbx.frozen
  have HB3 := Lib.hid hb3
  have HK3 := Lib.hid (KeepsBut.keeps (HK2.out.alloc _) hkb (by omega))
  clear hkb hb3 hcx hbx hb0 hb1 HBX2 HBB2 HBL2
  go_wp2_with fail
  refine bodyPost_ret (by simp [results, Try.results48, go_sem, *]) rfl ⟨⟨(t - f : Nat), some ⟨g, 0, none⟩, (t - f + 7) / 8, (t - f + 7) / 8, pack (part bs f t)⟩, rfl, ?_, fun a ha => by cases ha; simp only; omega, ?_⟩
  · have hpl := part_len bs f t h2
    exact ((HB3.out.keepsBut (KeepsBut.setCell _ _ _ _) (by omega)).keepsBut (KeepsBut.setCell _ _ _ _) (by omega)).is2 _ _ _ (by rw [hpl]) (by omega) (by rw [hpl]) (Nat.le_refl _) (by omega)
  · exact (HK3.out.setCell (by simp) _).setCell (by simp) _

theorem slice_any (x : RB) (fv tv : Int) (w : World) (hx : x.In w) :
    Calls Try.prog 48 #[x.val, .int .i64 fv, .int .i64 tv] w fun e w' => Res w w' e (sliceRes x fv tv) := by
  cases hc : chk x.n x.l
  · rw [show sliceRes x fv tv = ([], 10) by unfold sliceRes; simp [hc]]
    exact (slice_bad x fv tv w hx hc).mono fun e w' h => Res.no h
  cases ha : partOk x.n fv tv
  · rw [show sliceRes x fv tv = ([], 2) by unfold sliceRes; simp [hc, ha]]
    exact (slice_arg x fv tv w hx hc ha).mono fun e w' h => Res.no h
  have hi : x.Is w x.bits := hx.is hc
  have hn := hi.n
  have ha' := ha
  simp only [partOk, Bool.and_eq_true, decide_eq_true_eq] at ha'
  rw [show sliceRes x fv tv = (part x.bits fv.toNat tv.toNat, 0) by unfold sliceRes; simp [hc, ha]]
  exact slice_ok x x.bits fv tv fv.toNat tv.toNat w (by omega) (by omega) hi (by omega) (by omega)
end Go.Proofs.Ytkbdpdcandpfdaa
