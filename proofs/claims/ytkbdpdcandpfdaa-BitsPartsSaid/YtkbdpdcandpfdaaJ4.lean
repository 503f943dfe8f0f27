/- The walk of BitsParts. -/
import Derived.Test.YtkbdpdcandpfdaaJ1
import Derived.Test.YtkbdpdcandpfdaaJ2
import Derived.Test.YtkbdpdcandpfdaaJ3
import Derived.Test.YtkbdpdcandpfdaaW34
import Derived.Test.YtkbdpdcandpfdaaW21
namespace Go.Proofs.Ytkbdpdcandpfdaa
open Go.RowKit
set_option linter.unusedVariables false
set_option linter.unusedSimpArgs false
theorem Box.putJ {w : World} {b t : Nat} {c : Array Value} (h : Box w b t c) (i : Nat) (v : Value) : Box (w.setCell ⟨b, i, none⟩ v) b t (c.setIfInBounds i v) := heap_setCell_same w b i c t v h
set_option maxHeartbeats 4000000 in
set_option maxRecDepth 100000 in
theorem bitsParts_any (x : RB) (la : Option Addr) (ln lcap : Nat) (xs : List RB) (fv tv : Int) (v : Value) (zs : List Int) (w : World) (hx : x.In w) (hl : RBs w la ln lcap xs) (hz : Ints w v zs) (h47 : x.len ≤ 140737488355328) :
    Calls Try.prog 12 #[x.val, .slice la ln lcap, .int .i64 fv, .int .i64 tv, v] w fun e w' => e = .returned (.bool true) ∧ Keeps w w' := by
  have HX := Lib.hid hx
  have HL := Lib.hid hl
  have HZ := Lib.hid hz
  have hlc := hx.cap
  have hlm := hx.max
  have hll := hx.row.1
  clear hx hl hz
  obtain ⟨n, a, len, cap, l⟩ := x
  simp only at h47 hlc hlm hll
  show Calls Try.prog 12 #[.agg #[.int .i64 n, .slice a len cap], .slice la ln lcap, .int .i64 fv, .int .i64 tv, v] w _
  have HK := Lib.hid ((Keeps.refl w).alloc (.cells #[.int .i64 n, .slice a len cap] 32))
  have ha := (Box.new w 32 #[.int .i64 n, .slice a len cap])
  have HA := Lib.hid ha
  clear ha
  obtain ⟨r1, hr1⟩ : ∃ r, r = sliceRes ⟨n, a, len, cap, l⟩ fv tv := ⟨_, rfl⟩
  obtain ⟨r2, hr2⟩ : ∃ r, r = joinRes xs := ⟨_, rfl⟩
  obtain ⟨r3, hr3⟩ : ∃ r, r = flipRes ⟨n, a, len, cap, l⟩ zs := ⟨_, rfl⟩
  have HR1 := Lib.hid hr1
  have HR2 := Lib.hid hr2
  have HR3 := Lib.hid hr3
  clear hr1 hr2 hr3
  go_enter Try.func12, Try.ntmps12
  go_wp2_with fail
  with_reducible refine (cloneU_any a len cap l _ (by exact HX.out.row.keeps HK.out) hlc hlm h47).mono ?_
  rintro e w0 ⟨wa, wcap, rfl, hrow, hwc, hwm, hwf, hk0⟩
  have HW := Lib.hid hrow
  have HWF := Lib.hid hwf
  clear hrow hwf
  have hkk := hk0
  replace HK := Lib.hid (HK.out.trans hkk)
  replace HA := Lib.hid (HA.out.keeps hkk)
  clear hkk hk0
  have hqa := HA.out.lt
  have ha0 := HA.out.cell 0 _ rfl
  have ha1 := HA.out.cell 1 _ rfl
  have hal := HA.out.lt
  go_wp2_with fail
  with_reducible refine (slice_any ⟨n, a, len, cap, l⟩ fv tv _ (by exact HX.out.keeps HK.out)).mono ?_
  rw [← HR1.out]
  rintro e w1 ⟨y, rfl, hy, hf1, hk1⟩
  obtain ⟨n1, a1, len1, cap1, l1⟩ := y
  have hza : w0.heap.size ≤ w1.heap.size := hk1.size
  have hle1 : w.heap.size ≤ w1.heap.size := by omega
  have hna1 : w.heap.size ≠ w1.heap.size := by omega
  have HY1 := Lib.hid hy
  have HF1 := Lib.hid hf1
  clear hy hf1
  clear ha0 ha1 hal
  have hkk := hk1
  replace HK := Lib.hid (HK.out.trans hkk)
  replace HA := Lib.hid (HA.out.keeps hkk)
  replace HW := Lib.hid (HW.out.keeps hkk)
  clear hkk hk1
  have ha0 := HA.out.cell 0 _ rfl
  have ha1 := HA.out.cell 1 _ rfl
  have hal := HA.out.lt
  go_wp2_with fail
  with_reducible refine (rslice_any ⟨n, a, len, cap, l⟩ fv tv _ (by exact HX.out.keeps (HK.out.alloc _))).mono ?_
  rw [← HR1.out]
  rintro e w2 ⟨y, rfl, hy, hf2, hk2⟩
  obtain ⟨n2, a2, len2, cap2, l2⟩ := y
  have hzb : w1.heap.size < w2.heap.size := hk2.box_lt
  have hle2 : w.heap.size ≤ w2.heap.size := by omega
  have hna2 : w.heap.size ≠ w2.heap.size := by omega
  have hn12 : w1.heap.size ≠ w2.heap.size := by omega
  have hn21 : w2.heap.size ≠ w1.heap.size := by omega
  have HY2 := Lib.hid hy
  have HF2 := Lib.hid hf2
  clear hy hf2
  clear ha0 ha1 hal
  have hkk := ((Keeps.refl w1).alloc (.cells #[.int .i64 n1, .slice a1 len1 cap1] 32)).trans hk2
  have HC := Lib.hid ((Box.new w1 32 #[.int .i64 n1, .slice a1 len1 cap1]).keeps hk2)
  replace HK := Lib.hid (HK.out.trans hkk)
  replace HA := Lib.hid (HA.out.keeps hkk)
  replace HY1 := Lib.hid (HY1.out.keeps hkk)
  replace HW := Lib.hid (HW.out.keeps hkk)
  clear hkk hk2
  have ha0 := HA.out.cell 0 _ rfl
  have ha1 := HA.out.cell 1 _ rfl
  have hal := HA.out.lt
  have hc0 := HC.out.cell 0 _ rfl
  have hc1 := HC.out.cell 1 _ rfl
  have hcl := HC.out.lt
  go_wp2_with fail
  with_reducible refine (begun1_any _).mono ?_
  rintro e w3 ⟨rfl, hk3⟩
  clear ha0 ha1 hal hc0 hc1 hcl
  have hkk := ((Keeps.refl w2).alloc (.cells #[.int .i64 n2, .slice a2 len2 cap2] 32)).trans hk3
  have HD := Lib.hid ((Box.new w2 32 #[.int .i64 n2, .slice a2 len2 cap2]).keeps hk3)
  replace HK := Lib.hid (HK.out.trans hkk)
  replace HA := Lib.hid (HA.out.keeps hkk)
  replace HC := Lib.hid (HC.out.keeps hkk)
  replace HY1 := Lib.hid (HY1.out.keeps hkk)
  replace HY2 := Lib.hid (HY2.out.keeps hkk)
  replace HW := Lib.hid (HW.out.keeps hkk)
  clear hkk hk3
  have ha0 := HA.out.cell 0 _ rfl
  have ha1 := HA.out.cell 1 _ rfl
  have hal := HA.out.lt
  have hc0 := HC.out.cell 0 _ rfl
  have hc1 := HC.out.cell 1 _ rfl
  have hcl := HC.out.lt
  have hd0 := HD.out.cell 0 _ rfl
  have hd1 := HD.out.cell 1 _ rfl
  have hdl := HD.out.lt
  go_wp2_with fail
  with_reducible refine (same_is ⟨n1, a1, len1, cap1, l1⟩ ⟨n2, a2, len2, cap2, l2⟩ r1.1 r1.1 _ (by exact HY1.out) (by exact HY2.out)).mono ?_
  rw [decide_eq_true (rfl : r1.1 = r1.1)]
  rintro e w4 ⟨rfl, hk4⟩
  clear ha0 ha1 hal hc0 hc1 hcl hd0 hd1 hdl
  have hkk := hk4
  replace HK := Lib.hid (HK.out.trans hkk)
  replace HA := Lib.hid (HA.out.keeps hkk)
  replace HC := Lib.hid (HC.out.keeps hkk)
  replace HD := Lib.hid (HD.out.keeps hkk)
  replace HY1 := Lib.hid (HY1.out.keeps hkk)
  replace HY2 := Lib.hid (HY2.out.keeps hkk)
  replace HW := Lib.hid (HW.out.keeps hkk)
  clear hkk hk4
  have ha0 := HA.out.cell 0 _ rfl
  have ha1 := HA.out.cell 1 _ rfl
  have hal := HA.out.lt
  have hc0 := HC.out.cell 0 _ rfl
  have hc1 := HC.out.cell 1 _ rfl
  have hcl := HC.out.lt
  have hd0 := HD.out.cell 0 _ rfl
  have hd1 := HD.out.cell 1 _ rfl
  have hdl := HD.out.lt
  clear HY1 HY2
  have hfc := HC.out.frozen
  have hfd := HD.out.frozen


  go_wp2_with fail
  with_reducible refine (join_any la ln lcap xs _ (by exact HL.out.keeps HK.out)).mono ?_
  rw [← HR2.out]
  rintro e w5 ⟨y, rfl, hy, hf5, hk5⟩
  obtain ⟨n5, a5, len5, cap5, l5⟩ := y
  have HY5 := Lib.hid hy
  have HF5 := Lib.hid hf5
  clear hy hf5 hfc hfd
  have hb5 : w1.heap.size < w4.heap.size := HC.out.lt
  have hbb5 : w2.heap.size < w4.heap.size := HD.out.lt
  clear ha0 ha1 hal hc0 hc1 hcl hd0 hd1 hdl
  have hkk := hk5
  replace HK := Lib.hid (HK.out.trans hkk)
  replace HA := Lib.hid (HA.out.keeps hkk)
  replace HC := Lib.hid (HC.out.keeps hkk)
  replace HD := Lib.hid (HD.out.keeps hkk)
  replace HW := Lib.hid (HW.out.keeps hkk)
  clear hkk hk5
  have ha0 := HA.out.cell 0 _ rfl
  have ha1 := HA.out.cell 1 _ rfl
  have hal := HA.out.lt
  have hc0 := HC.out.cell 0 _ rfl
  have hc1 := HC.out.cell 1 _ rfl
  have hcl := HC.out.lt
  have hd0 := HD.out.cell 0 _ rfl
  have hd1 := HD.out.cell 1 _ rfl
  have hdl := HD.out.lt
  have hfc := HC.out.frozen
  have hb25 : w2.heap.size < w5.heap.size := HD.out.lt
  replace HK := Lib.hid ((HK.out.setCell (p := ⟨w1.heap.size, 0, none⟩) hle1 (.int .i64 n5)).setCell (p := ⟨w1.heap.size, 1, none⟩) hle1 (.slice a5 len5 cap5))
  replace HA := Lib.hid ((HA.out.keepsBut (KeepsBut.setCell _ w1.heap.size 0 (.int .i64 n5)) hna1).keepsBut (KeepsBut.setCell _ w1.heap.size 1 (.slice a5 len5 cap5)) hna1)
  replace HC := Lib.hid ((HC.out.putJ 0 (.int .i64 n5)).putJ 1 (.slice a5 len5 cap5))
  replace HD := Lib.hid ((HD.out.keepsBut (KeepsBut.setCell _ w1.heap.size 0 (.int .i64 n5)) hn21).keepsBut (KeepsBut.setCell _ w1.heap.size 1 (.slice a5 len5 cap5)) hn21)
  replace HY5 := Lib.hid (RB.Is.put (b := w1.heap.size) (RB.Is.put (b := w1.heap.size) HY5.out HF5.out hb5 0 (.int .i64 n5)) HF5.out hb5 1 (.slice a5 len5 cap5))
  replace HW := Lib.hid ((HW.out.keepsBut (KeepsBut.setCell _ w1.heap.size 0 (.int .i64 n5)) (by intro x hx; have := HWF.out x hx; omega)).keepsBut (KeepsBut.setCell _ w1.heap.size 1 (.slice a5 len5 cap5)) (by intro x hx; have := HWF.out x hx; omega))
  go_wp2_with fail
  with_reducible refine (rjoin_any la ln lcap xs _ (by exact HL.out.keeps HK.out)).mono ?_
  rw [← HR2.out]
  rintro e w6 ⟨y, rfl, hy, hf6, hk6⟩
  obtain ⟨n6, a6, len6, cap6, l6⟩ := y
  have HY6 := Lib.hid hy
  have HF6 := Lib.hid hf6
  clear hy hf6 hfc
  clear ha0 ha1 hal hc0 hc1 hcl hd0 hd1 hdl
  have hkk := hk6
  replace HK := Lib.hid (HK.out.trans hkk)
  replace HA := Lib.hid (HA.out.keeps hkk)
  replace HC := Lib.hid (HC.out.keeps hkk)
  replace HD := Lib.hid (HD.out.keeps hkk)
  replace HY5 := Lib.hid (HY5.out.keeps hkk)
  replace HW := Lib.hid (HW.out.keeps hkk)
  clear hkk hk6
  have ha0 := HA.out.cell 0 _ rfl
  have ha1 := HA.out.cell 1 _ rfl
  have hal := HA.out.lt
  have hc0 := HC.out.cell 0 _ rfl
  have hc1 := HC.out.cell 1 _ rfl
  have hcl := HC.out.lt
  have hd0 := HD.out.cell 0 _ rfl
  have hd1 := HD.out.cell 1 _ rfl
  have hdl := HD.out.lt
  have hfd := HD.out.frozen
  replace HK := Lib.hid ((HK.out.setCell (p := ⟨w2.heap.size, 0, none⟩) hle2 (.int .i64 n6)).setCell (p := ⟨w2.heap.size, 1, none⟩) hle2 (.slice a6 len6 cap6))
  replace HA := Lib.hid ((HA.out.keepsBut (KeepsBut.setCell _ w2.heap.size 0 (.int .i64 n6)) hna2).keepsBut (KeepsBut.setCell _ w2.heap.size 1 (.slice a6 len6 cap6)) hna2)
  replace HC := Lib.hid ((HC.out.keepsBut (KeepsBut.setCell _ w2.heap.size 0 (.int .i64 n6)) hn12).keepsBut (KeepsBut.setCell _ w2.heap.size 1 (.slice a6 len6 cap6)) hn12)
  replace HD := Lib.hid ((HD.out.putJ 0 (.int .i64 n6)).putJ 1 (.slice a6 len6 cap6))
  replace HY5 := Lib.hid (RB.Is.put (b := w2.heap.size) (RB.Is.put (b := w2.heap.size) HY5.out HF5.out hbb5 0 (.int .i64 n6)) HF5.out hbb5 1 (.slice a6 len6 cap6))
  replace HY6 := Lib.hid (RB.Is.put (b := w2.heap.size) (RB.Is.put (b := w2.heap.size) HY6.out HF6.out (by simpa using hb25) 0 (.int .i64 n6)) HF6.out (by simpa using hb25) 1 (.slice a6 len6 cap6))
  replace HW := Lib.hid ((HW.out.keepsBut (KeepsBut.setCell _ w2.heap.size 0 (.int .i64 n6)) (by intro x hx; have := HWF.out x hx; omega)).keepsBut (KeepsBut.setCell _ w2.heap.size 1 (.slice a6 len6 cap6)) (by intro x hx; have := HWF.out x hx; omega))
  go_wp2_with fail
  with_reducible refine (same_is ⟨n5, a5, len5, cap5, l5⟩ ⟨n6, a6, len6, cap6, l6⟩ r2.1 r2.1 _ (by exact HY5.out) (by exact HY6.out)).mono ?_
  rw [decide_eq_true (rfl : r2.1 = r2.1)]
  rintro e w7 ⟨rfl, hk7⟩
  clear hfd
  clear ha0 ha1 hal hc0 hc1 hcl hd0 hd1 hdl
  have hkk := hk7
  replace HK := Lib.hid (HK.out.trans hkk)
  replace HA := Lib.hid (HA.out.keeps hkk)
  replace HC := Lib.hid (HC.out.keeps hkk)
  replace HD := Lib.hid (HD.out.keeps hkk)
  replace HY5 := Lib.hid (HY5.out.keeps hkk)
  replace HY6 := Lib.hid (HY6.out.keeps hkk)
  replace HW := Lib.hid (HW.out.keeps hkk)
  clear hkk hk7
  have ha0 := HA.out.cell 0 _ rfl
  have ha1 := HA.out.cell 1 _ rfl
  have hal := HA.out.lt
  have hc0 := HC.out.cell 0 _ rfl
  have hc1 := HC.out.cell 1 _ rfl
  have hcl := HC.out.lt
  have hd0 := HD.out.cell 0 _ rfl
  have hd1 := HD.out.cell 1 _ rfl
  have hdl := HD.out.lt
  clear HY5 HY6
  have hfc := HC.out.frozen
  have hfd := HD.out.frozen
  go_wp2_with fail
  with_reducible refine (flip_any ⟨n, a, len, cap, l⟩ v zs _ (by exact HX.out.keeps HK.out) (by exact HZ.out.keeps HK.out)).mono ?_
  rw [← HR3.out]
  rintro e w8 ⟨y, rfl, hy, hf8, hk8⟩
  obtain ⟨n8, a8, len8, cap8, l8⟩ := y
  have HY8 := Lib.hid hy
  have HF8 := Lib.hid hf8
  clear hy hf8 hfc hfd
  have hb8 : w1.heap.size < w7.heap.size := HC.out.lt
  have hbb8 : w2.heap.size < w7.heap.size := HD.out.lt
  clear ha0 ha1 hal hc0 hc1 hcl hd0 hd1 hdl
  have hkk := hk8
  replace HK := Lib.hid (HK.out.trans hkk)
  replace HA := Lib.hid (HA.out.keeps hkk)
  replace HC := Lib.hid (HC.out.keeps hkk)
  replace HD := Lib.hid (HD.out.keeps hkk)
  replace HW := Lib.hid (HW.out.keeps hkk)
  clear hkk hk8
  have ha0 := HA.out.cell 0 _ rfl
  have ha1 := HA.out.cell 1 _ rfl
  have hal := HA.out.lt
  have hc0 := HC.out.cell 0 _ rfl
  have hc1 := HC.out.cell 1 _ rfl
  have hcl := HC.out.lt
  have hd0 := HD.out.cell 0 _ rfl
  have hd1 := HD.out.cell 1 _ rfl
  have hdl := HD.out.lt
  have hfc := HC.out.frozen
  have hb28 : w2.heap.size < w8.heap.size := HD.out.lt
  replace HK := Lib.hid ((HK.out.setCell (p := ⟨w1.heap.size, 0, none⟩) hle1 (.int .i64 n8)).setCell (p := ⟨w1.heap.size, 1, none⟩) hle1 (.slice a8 len8 cap8))
  replace HA := Lib.hid ((HA.out.keepsBut (KeepsBut.setCell _ w1.heap.size 0 (.int .i64 n8)) hna1).keepsBut (KeepsBut.setCell _ w1.heap.size 1 (.slice a8 len8 cap8)) hna1)
  replace HC := Lib.hid ((HC.out.putJ 0 (.int .i64 n8)).putJ 1 (.slice a8 len8 cap8))
  replace HD := Lib.hid ((HD.out.keepsBut (KeepsBut.setCell _ w1.heap.size 0 (.int .i64 n8)) hn21).keepsBut (KeepsBut.setCell _ w1.heap.size 1 (.slice a8 len8 cap8)) hn21)
  replace HY8 := Lib.hid (RB.Is.put (b := w1.heap.size) (RB.Is.put (b := w1.heap.size) HY8.out HF8.out hb8 0 (.int .i64 n8)) HF8.out hb8 1 (.slice a8 len8 cap8))
  replace HW := Lib.hid ((HW.out.keepsBut (KeepsBut.setCell _ w1.heap.size 0 (.int .i64 n8)) (by intro x hx; have := HWF.out x hx; omega)).keepsBut (KeepsBut.setCell _ w1.heap.size 1 (.slice a8 len8 cap8)) (by intro x hx; have := HWF.out x hx; omega))
  go_wp2_with fail
  with_reducible refine (rflip_any ⟨n, a, len, cap, l⟩ v zs _ (by exact HX.out.keeps HK.out) (by exact HZ.out.keeps HK.out)).mono ?_
  rw [← HR3.out]
  rintro e w9 ⟨y, rfl, hy, hf9, hk9⟩
  obtain ⟨n9, a9, len9, cap9, l9⟩ := y
  have HY9 := Lib.hid hy
  have HF9 := Lib.hid hf9
  clear hy hf9 hfc
  clear ha0 ha1 hal hc0 hc1 hcl hd0 hd1 hdl
  have hkk := hk9
  replace HK := Lib.hid (HK.out.trans hkk)
  replace HA := Lib.hid (HA.out.keeps hkk)
  replace HC := Lib.hid (HC.out.keeps hkk)
  replace HD := Lib.hid (HD.out.keeps hkk)
  replace HY8 := Lib.hid (HY8.out.keeps hkk)
  replace HW := Lib.hid (HW.out.keeps hkk)
  clear hkk hk9
  have ha0 := HA.out.cell 0 _ rfl
  have ha1 := HA.out.cell 1 _ rfl
  have hal := HA.out.lt
  have hc0 := HC.out.cell 0 _ rfl
  have hc1 := HC.out.cell 1 _ rfl
  have hcl := HC.out.lt
  have hd0 := HD.out.cell 0 _ rfl
  have hd1 := HD.out.cell 1 _ rfl
  have hdl := HD.out.lt
  have hfd := HD.out.frozen
  replace HK := Lib.hid ((HK.out.setCell (p := ⟨w2.heap.size, 0, none⟩) hle2 (.int .i64 n9)).setCell (p := ⟨w2.heap.size, 1, none⟩) hle2 (.slice a9 len9 cap9))
  replace HA := Lib.hid ((HA.out.keepsBut (KeepsBut.setCell _ w2.heap.size 0 (.int .i64 n9)) hna2).keepsBut (KeepsBut.setCell _ w2.heap.size 1 (.slice a9 len9 cap9)) hna2)
  replace HC := Lib.hid ((HC.out.keepsBut (KeepsBut.setCell _ w2.heap.size 0 (.int .i64 n9)) hn12).keepsBut (KeepsBut.setCell _ w2.heap.size 1 (.slice a9 len9 cap9)) hn12)
  replace HD := Lib.hid ((HD.out.putJ 0 (.int .i64 n9)).putJ 1 (.slice a9 len9 cap9))
  replace HY8 := Lib.hid (RB.Is.put (b := w2.heap.size) (RB.Is.put (b := w2.heap.size) HY8.out HF8.out hbb8 0 (.int .i64 n9)) HF8.out hbb8 1 (.slice a9 len9 cap9))
  replace HY9 := Lib.hid (RB.Is.put (b := w2.heap.size) (RB.Is.put (b := w2.heap.size) HY9.out HF9.out (by simpa using hb28) 0 (.int .i64 n9)) HF9.out (by simpa using hb28) 1 (.slice a9 len9 cap9))
  replace HW := Lib.hid ((HW.out.keepsBut (KeepsBut.setCell _ w2.heap.size 0 (.int .i64 n9)) (by intro x hx; have := HWF.out x hx; omega)).keepsBut (KeepsBut.setCell _ w2.heap.size 1 (.slice a9 len9 cap9)) (by intro x hx; have := HWF.out x hx; omega))
  go_wp2_with fail
  with_reducible refine (same_is ⟨n8, a8, len8, cap8, l8⟩ ⟨n9, a9, len9, cap9, l9⟩ r3.1 r3.1 _ (by exact HY8.out) (by exact HY9.out)).mono ?_
  rw [decide_eq_true (rfl : r3.1 = r3.1)]
  rintro e w10 ⟨rfl, hk10⟩
  clear hfd
  clear ha0 ha1 hal hc0 hc1 hcl hd0 hd1 hdl
  have hkk := hk10
  replace HK := Lib.hid (HK.out.trans hkk)
  replace HA := Lib.hid (HA.out.keeps hkk)
  replace HC := Lib.hid (HC.out.keeps hkk)
  replace HD := Lib.hid (HD.out.keeps hkk)
  replace HY8 := Lib.hid (HY8.out.keeps hkk)
  replace HY9 := Lib.hid (HY9.out.keeps hkk)
  replace HW := Lib.hid (HW.out.keeps hkk)
  clear hkk hk10
  have ha0 := HA.out.cell 0 _ rfl
  have ha1 := HA.out.cell 1 _ rfl
  have hal := HA.out.lt
  have hc0 := HC.out.cell 0 _ rfl
  have hc1 := HC.out.cell 1 _ rfl
  have hcl := HC.out.lt
  have hd0 := HD.out.cell 0 _ rfl
  have hd1 := HD.out.cell 1 _ rfl
  have hdl := HD.out.lt
  clear HY8 HY9
  go_wp2_with fail
  with_reducible refine (eqU_yes a wa len cap wcap l _ (by exact HX.out.row.keeps HK.out) (by exact HW.out) hlc hlm hwc hwm).mono ?_
  rintro e w11 ⟨rfl, hk11⟩
  replace HK := Lib.hid (HK.out.trans hk11)
  clear hk11
  go_wp2_with fail
  go_ret
  exact ⟨rfl, HK.out⟩
end Go.Proofs.Ytkbdpdcandpfdaa
