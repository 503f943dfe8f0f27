/- The walk of CrcSeals. -/
import Derived.Test.YtkbdpdcandpfdaaW27
namespace Go.Proofs.Ytkbdpdcandpfdaa
open Go.RowKit
set_option linter.unusedVariables false
set_option linter.unusedSimpArgs false

set_option maxHeartbeats 2000000 in
set_option maxRecDepth 100000 in
theorem crcSeals_any (x u : RB) (av : Int) (pat : Nat) (w : World) (hx : x.In w) (hu : u.In w) (hpat : pat < 4294967296) :
    Calls Try.prog 10 #[x.val, u.val, .int .i64 av, .int .u32 pat] w fun e w' => e = .returned (.bool true) ∧ Keeps w w' := by
  have HX := Lib.hid hx
  have HU := Lib.hid hu
  clear hx hu
  obtain ⟨n, a, len, cap, l⟩ := x
  obtain ⟨m, b, lenu, capu, lu⟩ := u
  show Calls Try.prog 10 #[.agg #[.int .i64 n, .slice a len cap], .agg #[.int .i64 m, .slice b lenu capu], .int .i64 av, .int .u32 pat] w _
  have HK := Lib.hid (((Keeps.refl w).alloc (.cells #[.int .i64 n, .slice a len cap] 32)).alloc (.cells #[.int .i64 m, .slice b lenu capu] 32))
  have ha := ((Box.new w 32 #[.int .i64 n, .slice a len cap]).next (.cells #[.int .i64 m, .slice b lenu capu] 32))
  have HA := Lib.hid ha
  clear ha
  have hb := (Box.new (w.alloc (.cells #[.int .i64 n, .slice a len cap] 32)) 32 #[.int .i64 m, .slice b lenu capu])
  rw [World.size_alloc] at hb
  have HB := Lib.hid hb
  clear hb
  obtain ⟨r1, hr1⟩ : ∃ r, r = sealRes ⟨n, a, len, cap, l⟩ ⟨m, b, lenu, capu, lu⟩ := ⟨_, rfl⟩
  obtain ⟨r2, hr2⟩ : ∃ r, r = openRes ⟨n, a, len, cap, l⟩ ⟨m, b, lenu, capu, lu⟩ := ⟨_, rfl⟩
  obtain ⟨r3, hr3⟩ : ∃ r, r = burstRes ⟨n, a, len, cap, l⟩ av pat := ⟨_, rfl⟩
  have HR1 := Lib.hid hr1
  have HR2 := Lib.hid hr2
  have HR3 := Lib.hid hr3
  clear hr1 hr2 hr3
  go_enter Try.func10, Try.ntmps10
  go_wp2_with fail
  with_reducible refine (seal_any ⟨n, a, len, cap, l⟩ ⟨m, b, lenu, capu, lu⟩ _ (by exact HX.out.keeps HK.out) (by exact HU.out.keeps HK.out)).mono ?_
  rw [← HR1.out]
  rintro e w1 ⟨y, rfl, hy, hf1, hk1⟩
  obtain ⟨n1, a1, len1, cap1, l1⟩ := y
  have HY1 := Lib.hid hy
  have HF1 := Lib.hid hf1
  clear hy hf1
  have hkk := hk1
  replace HK := Lib.hid (HK.out.trans hkk)
  replace HA := Lib.hid (HA.out.keeps hkk)
  replace HB := Lib.hid (HB.out.keeps hkk)
  clear hkk hk1
  have ha0 := HA.out.cell 0 _ rfl
  have ha1 := HA.out.cell 1 _ rfl
  have hal := HA.out.lt
  have hb0 := HB.out.cell 0 _ rfl
  have hb1 := HB.out.cell 1 _ rfl
  have hbl := HB.out.lt
  have hqa := HA.out.lt
  go_wp2_with fail
  with_reducible refine (rseal_any ⟨n, a, len, cap, l⟩ ⟨m, b, lenu, capu, lu⟩ _ (by exact HX.out.keeps (HK.out.alloc _)) (by exact HU.out.keeps (HK.out.alloc _))).mono ?_
  rw [← HR1.out]
  rintro e w2 ⟨y, rfl, hy, hf2, hk2⟩
  obtain ⟨n2, a2, len2, cap2, l2⟩ := y
  have HY2 := Lib.hid hy
  have HF2 := Lib.hid hf2
  clear hy hf2
  clear ha0 ha1 hal hb0 hb1 hbl
  have hkk := ((Keeps.refl w1).alloc (.cells #[.int .i64 n1, .slice a1 len1 cap1] 32)).trans hk2
  have HC := Lib.hid ((Box.new w1 32 #[.int .i64 n1, .slice a1 len1 cap1]).keeps hk2)
  replace HK := Lib.hid (HK.out.trans hkk)
  replace HA := Lib.hid (HA.out.keeps hkk)
  replace HB := Lib.hid (HB.out.keeps hkk)
  replace HY1 := Lib.hid (HY1.out.keeps hkk)
  clear hkk hk2
  have ha0 := HA.out.cell 0 _ rfl
  have ha1 := HA.out.cell 1 _ rfl
  have hal := HA.out.lt
  have hb0 := HB.out.cell 0 _ rfl
  have hb1 := HB.out.cell 1 _ rfl
  have hbl := HB.out.lt
  have hc0 := HC.out.cell 0 _ rfl
  have hc1 := HC.out.cell 1 _ rfl
  have hcl := HC.out.lt
  have hqc := HC.out.lt
  go_wp2_with fail
  with_reducible refine (open_any ⟨n, a, len, cap, l⟩ ⟨m, b, lenu, capu, lu⟩ _ (by exact HX.out.keeps (HK.out.alloc _)) (by exact HU.out.keeps (HK.out.alloc _))).mono ?_
  rw [← HR2.out]
  rintro e w3 ⟨y, rfl, hy, hf3, hk3⟩
  obtain ⟨n3, a3, len3, cap3, l3⟩ := y
  have HY3 := Lib.hid hy
  have HF3 := Lib.hid hf3
  clear hy hf3
  clear ha0 ha1 hal hb0 hb1 hbl hc0 hc1 hcl
  have hkk := ((Keeps.refl w2).alloc (.cells #[.int .i64 n2, .slice a2 len2 cap2] 32)).trans hk3
  have HD := Lib.hid ((Box.new w2 32 #[.int .i64 n2, .slice a2 len2 cap2]).keeps hk3)
  replace HK := Lib.hid (HK.out.trans hkk)
  replace HA := Lib.hid (HA.out.keeps hkk)
  replace HB := Lib.hid (HB.out.keeps hkk)
  replace HC := Lib.hid (HC.out.keeps hkk)
  replace HY1 := Lib.hid (HY1.out.keeps hkk)
  replace HY2 := Lib.hid (HY2.out.keeps hkk)
  clear hkk hk3
  have ha0 := HA.out.cell 0 _ rfl
  have ha1 := HA.out.cell 1 _ rfl
  have hal := HA.out.lt
  have hb0 := HB.out.cell 0 _ rfl
  have hb1 := HB.out.cell 1 _ rfl
  have hbl := HB.out.lt
  have hc0 := HC.out.cell 0 _ rfl
  have hc1 := HC.out.cell 1 _ rfl
  have hcl := HC.out.lt
  have hd0 := HD.out.cell 0 _ rfl
  have hd1 := HD.out.cell 1 _ rfl
  have hdl := HD.out.lt
  go_wp2_with fail
  with_reducible refine (ropen_any ⟨n, a, len, cap, l⟩ ⟨m, b, lenu, capu, lu⟩ _ (by exact HX.out.keeps (HK.out.alloc _)) (by exact HU.out.keeps (HK.out.alloc _))).mono ?_
  rw [← HR2.out]
  rintro e w4 ⟨y, rfl, hy, hf4, hk4⟩
  obtain ⟨n4, a4, len4, cap4, l4⟩ := y
  have HY4 := Lib.hid hy
  have HF4 := Lib.hid hf4
  clear hy hf4
  clear ha0 ha1 hal hb0 hb1 hbl hc0 hc1 hcl hd0 hd1 hdl
  have hkk := ((Keeps.refl w3).alloc (.cells #[.int .i64 n3, .slice a3 len3 cap3] 32)).trans hk4
  have HE := Lib.hid ((Box.new w3 32 #[.int .i64 n3, .slice a3 len3 cap3]).keeps hk4)
  replace HK := Lib.hid (HK.out.trans hkk)
  replace HA := Lib.hid (HA.out.keeps hkk)
  replace HB := Lib.hid (HB.out.keeps hkk)
  replace HC := Lib.hid (HC.out.keeps hkk)
  replace HD := Lib.hid (HD.out.keeps hkk)
  replace HY1 := Lib.hid (HY1.out.keeps hkk)
  replace HY2 := Lib.hid (HY2.out.keeps hkk)
  replace HY3 := Lib.hid (HY3.out.keeps hkk)
  clear hkk hk4
  have ha0 := HA.out.cell 0 _ rfl
  have ha1 := HA.out.cell 1 _ rfl
  have hal := HA.out.lt
  have hb0 := HB.out.cell 0 _ rfl
  have hb1 := HB.out.cell 1 _ rfl
  have hbl := HB.out.lt
  have hc0 := HC.out.cell 0 _ rfl
  have hc1 := HC.out.cell 1 _ rfl
  have hcl := HC.out.lt
  have hd0 := HD.out.cell 0 _ rfl
  have hd1 := HD.out.cell 1 _ rfl
  have hdl := HD.out.lt
  have he0 := HE.out.cell 0 _ rfl
  have he1 := HE.out.cell 1 _ rfl
  have hel := HE.out.lt
  go_wp2_with fail
  refine (begun2_any _).mono ?_
  rintro e w5 ⟨rfl, hk5⟩
  clear ha0 ha1 hal hb0 hb1 hbl hc0 hc1 hcl hd0 hd1 hdl he0 he1 hel
  have hkk := ((Keeps.refl w4).alloc (.cells #[.int .i64 n4, .slice a4 len4 cap4] 32)).trans hk5
  have HG := Lib.hid ((Box.new w4 32 #[.int .i64 n4, .slice a4 len4 cap4]).keeps hk5)
  replace HK := Lib.hid (HK.out.trans hkk)
  replace HA := Lib.hid (HA.out.keeps hkk)
  replace HB := Lib.hid (HB.out.keeps hkk)
  replace HC := Lib.hid (HC.out.keeps hkk)
  replace HD := Lib.hid (HD.out.keeps hkk)
  replace HE := Lib.hid (HE.out.keeps hkk)
  replace HY1 := Lib.hid (HY1.out.keeps hkk)
  replace HY2 := Lib.hid (HY2.out.keeps hkk)
  replace HY3 := Lib.hid (HY3.out.keeps hkk)
  replace HY4 := Lib.hid (HY4.out.keeps hkk)
  clear hkk hk5
  have ha0 := HA.out.cell 0 _ rfl
  have ha1 := HA.out.cell 1 _ rfl
  have hal := HA.out.lt
  have hb0 := HB.out.cell 0 _ rfl
  have hb1 := HB.out.cell 1 _ rfl
  have hbl := HB.out.lt
  have hc0 := HC.out.cell 0 _ rfl
  have hc1 := HC.out.cell 1 _ rfl
  have hcl := HC.out.lt
  have hd0 := HD.out.cell 0 _ rfl
  have hd1 := HD.out.cell 1 _ rfl
  have hdl := HD.out.lt
  have he0 := HE.out.cell 0 _ rfl
  have he1 := HE.out.cell 1 _ rfl
  have hel := HE.out.lt
  have hg0 := HG.out.cell 0 _ rfl
  have hg1 := HG.out.cell 1 _ rfl
  have hgl := HG.out.lt
  go_wp2_with fail
  with_reducible refine (same_is ⟨n1, a1, len1, cap1, l1⟩ ⟨n2, a2, len2, cap2, l2⟩ r1.1 r1.1 _ (by exact HY1.out) (by exact HY2.out)).mono ?_
  rw [decide_eq_true (rfl : r1.1 = r1.1)]
  rintro e w6 ⟨rfl, hk6⟩
  clear ha0 ha1 hal hb0 hb1 hbl hc0 hc1 hcl hd0 hd1 hdl he0 he1 hel hg0 hg1 hgl
  have hkk := hk6
  replace HK := Lib.hid (HK.out.trans hkk)
  replace HA := Lib.hid (HA.out.keeps hkk)
  replace HB := Lib.hid (HB.out.keeps hkk)
  replace HC := Lib.hid (HC.out.keeps hkk)
  replace HD := Lib.hid (HD.out.keeps hkk)
  replace HE := Lib.hid (HE.out.keeps hkk)
  replace HG := Lib.hid (HG.out.keeps hkk)
  replace HY1 := Lib.hid (HY1.out.keeps hkk)
  replace HY2 := Lib.hid (HY2.out.keeps hkk)
  replace HY3 := Lib.hid (HY3.out.keeps hkk)
  replace HY4 := Lib.hid (HY4.out.keeps hkk)
  clear hkk hk6
  have ha0 := HA.out.cell 0 _ rfl
  have ha1 := HA.out.cell 1 _ rfl
  have hal := HA.out.lt
  have hb0 := HB.out.cell 0 _ rfl
  have hb1 := HB.out.cell 1 _ rfl
  have hbl := HB.out.lt
  have hc0 := HC.out.cell 0 _ rfl
  have hc1 := HC.out.cell 1 _ rfl
  have hcl := HC.out.lt
  have hd0 := HD.out.cell 0 _ rfl
  have hd1 := HD.out.cell 1 _ rfl
  have hdl := HD.out.lt
  have he0 := HE.out.cell 0 _ rfl
  have he1 := HE.out.cell 1 _ rfl
  have hel := HE.out.lt
  have hg0 := HG.out.cell 0 _ rfl
  have hg1 := HG.out.cell 1 _ rfl
  have hgl := HG.out.lt
  go_wp2_with fail
  with_reducible refine (same_is ⟨n3, a3, len3, cap3, l3⟩ ⟨n4, a4, len4, cap4, l4⟩ r2.1 r2.1 _ (by exact HY3.out) (by exact HY4.out)).mono ?_
  rw [decide_eq_true (rfl : r2.1 = r2.1)]
  rintro e w7 ⟨rfl, hk7⟩
  clear ha0 ha1 hal hb0 hb1 hbl hc0 hc1 hcl hd0 hd1 hdl he0 he1 hel hg0 hg1 hgl
  have hkk := hk7
  replace HK := Lib.hid (HK.out.trans hkk)
  replace HA := Lib.hid (HA.out.keeps hkk)
  replace HB := Lib.hid (HB.out.keeps hkk)
  replace HC := Lib.hid (HC.out.keeps hkk)
  replace HD := Lib.hid (HD.out.keeps hkk)
  replace HE := Lib.hid (HE.out.keeps hkk)
  replace HG := Lib.hid (HG.out.keeps hkk)
  replace HY1 := Lib.hid (HY1.out.keeps hkk)
  replace HY2 := Lib.hid (HY2.out.keeps hkk)
  replace HY3 := Lib.hid (HY3.out.keeps hkk)
  replace HY4 := Lib.hid (HY4.out.keeps hkk)
  clear hkk hk7
  have ha0 := HA.out.cell 0 _ rfl
  have ha1 := HA.out.cell 1 _ rfl
  have hal := HA.out.lt
  have hb0 := HB.out.cell 0 _ rfl
  have hb1 := HB.out.cell 1 _ rfl
  have hbl := HB.out.lt
  have hc0 := HC.out.cell 0 _ rfl
  have hc1 := HC.out.cell 1 _ rfl
  have hcl := HC.out.lt
  have hd0 := HD.out.cell 0 _ rfl
  have hd1 := HD.out.cell 1 _ rfl
  have hdl := HD.out.lt
  have he0 := HE.out.cell 0 _ rfl
  have he1 := HE.out.cell 1 _ rfl
  have hel := HE.out.lt
  have hg0 := HG.out.cell 0 _ rfl
  have hg1 := HG.out.cell 1 _ rfl
  have hgl := HG.out.lt
  clear ha0 ha1 hal hb0 hb1 hbl hc0 hc1 hcl hd0 hd1 hdl he0 he1 hel hg0 hg1 hgl
  clear HB HE HG HY1 HY2 HY3 HY4
  clear HF1 HF2 HF3 HF4
  have ha0 := HA.out.cell 0 _ rfl
  have ha1 := HA.out.cell 1 _ rfl
  have hal := HA.out.lt
  have hc0 := HC.out.cell 0 _ rfl
  have hc1 := HC.out.cell 1 _ rfl
  have hcl := HC.out.lt
  have hd0 := HD.out.cell 0 _ rfl
  have hd1 := HD.out.cell 1 _ rfl
  have hdl := HD.out.lt
  have hfc := HC.out.frozen
  have hfd := HD.out.frozen
  have hle1 : w.heap.size ≤ w1.heap.size := by omega
  have hle2 : w.heap.size ≤ w2.heap.size := by omega
  have hna1 : w.heap.size ≠ w1.heap.size := by omega
  have hna2 : w.heap.size ≠ w2.heap.size := by omega
  have hn12 : w1.heap.size ≠ w2.heap.size := by omega
  have hn21 : w2.heap.size ≠ w1.heap.size := by omega
  have hb17 : w1.heap.size < w7.heap.size := hcl
  have hb27 : w2.heap.size < w7.heap.size := hdl
  go_wp2_with fail
  with_reducible refine (burst_any ⟨n, a, len, cap, l⟩ av pat _ (by exact HX.out.keeps HK.out) hpat).mono ?_
  rw [← HR3.out]
  rintro e w8 ⟨y, rfl, hy, hf8, hk8⟩
  obtain ⟨n8, a8, len8, cap8, l8⟩ := y
  have HY8 := Lib.hid hy
  have HF8 := Lib.hid hf8
  clear hy hf8 hfc hfd
  clear ha0 ha1 hal hc0 hc1 hcl hd0 hd1 hdl
  have hkk := hk8
  replace HK := Lib.hid (HK.out.trans hkk)
  replace HA := Lib.hid (HA.out.keeps hkk)
  replace HC := Lib.hid (HC.out.keeps hkk)
  replace HD := Lib.hid (HD.out.keeps hkk)
  clear hkk hk8
  have ha0 := HA.out.cell 0 _ rfl
  have ha1 := HA.out.cell 1 _ rfl
  have hal := HA.out.lt
  have hc0 := HC.out.cell 0 _ rfl
  have hc1 := HC.out.cell 1 _ rfl
  have hcl := HC.out.lt
  have hd0 := HD.out.cell 0 _ rfl
  have hd1 := HD.out.cell 1 _ rfl
  have hdl := HD.out.lt
  have hfc := HC.out.frozen
  have HA8 := HA
  have HD8 := HD
  have hb28 := HD.out.lt
  replace HK := Lib.hid ((HK.out.setCell (p := ⟨w1.heap.size, 0, none⟩) hle1 (.int .i64 n8)).setCell (p := ⟨w1.heap.size, 1, none⟩) hle1 (.slice a8 len8 cap8))
  replace HA := Lib.hid ((HA.out.keepsBut (KeepsBut.setCell _ w1.heap.size 0 (.int .i64 n8)) hna1).keepsBut (KeepsBut.setCell _ w1.heap.size 1 (.slice a8 len8 cap8)) hna1)
  replace HC := Lib.hid ((HC.out.put 0 (.int .i64 n8)).put 1 (.slice a8 len8 cap8))
  replace HD := Lib.hid ((HD.out.keepsBut (KeepsBut.setCell _ w1.heap.size 0 (.int .i64 n8)) hn21).keepsBut (KeepsBut.setCell _ w1.heap.size 1 (.slice a8 len8 cap8)) hn21)
  replace HY8 := Lib.hid (RB.Is.put (b := w1.heap.size) (RB.Is.put (b := w1.heap.size) HY8.out HF8.out hb17 0 (.int .i64 n8)) HF8.out hb17 1 (.slice a8 len8 cap8))
  go_wp2_with fail
  with_reducible refine (rburst_any ⟨n, a, len, cap, l⟩ av pat _ (by exact HX.out.keeps HK.out) hpat).mono ?_
  rw [← HR3.out]
  rintro e w9 ⟨y, rfl, hy, hf9, hk9⟩
  obtain ⟨n9, a9, len9, cap9, l9⟩ := y
  have HY9 := Lib.hid hy
  have HF9 := Lib.hid hf9
  clear hy hf9 hfc HA8 HD8
  clear ha0 ha1 hal hc0 hc1 hcl hd0 hd1 hdl
  have hkk := hk9
  replace HK := Lib.hid (HK.out.trans hkk)
  replace HA := Lib.hid (HA.out.keeps hkk)
  replace HC := Lib.hid (HC.out.keeps hkk)
  replace HD := Lib.hid (HD.out.keeps hkk)
  replace HY8 := Lib.hid (HY8.out.keeps hkk)
  clear hkk hk9
  have ha0 := HA.out.cell 0 _ rfl
  have ha1 := HA.out.cell 1 _ rfl
  have hal := HA.out.lt
  have hc0 := HC.out.cell 0 _ rfl
  have hc1 := HC.out.cell 1 _ rfl
  have hcl := HC.out.lt
  have hd0 := HD.out.cell 0 _ rfl
  have hd1 := HD.out.cell 1 _ rfl
  have hdl := HD.out.lt
  have hfd := HD.out.frozen
  have hc9 := hc0
  have hc91 := hc1
  replace HK := Lib.hid ((HK.out.setCell (p := ⟨w2.heap.size, 0, none⟩) hle2 (.int .i64 n9)).setCell (p := ⟨w2.heap.size, 1, none⟩) hle2 (.slice a9 len9 cap9))
  replace HA := Lib.hid ((HA.out.keepsBut (KeepsBut.setCell _ w2.heap.size 0 (.int .i64 n9)) hna2).keepsBut (KeepsBut.setCell _ w2.heap.size 1 (.slice a9 len9 cap9)) hna2)
  replace HC := Lib.hid ((HC.out.keepsBut (KeepsBut.setCell _ w2.heap.size 0 (.int .i64 n9)) hn12).keepsBut (KeepsBut.setCell _ w2.heap.size 1 (.slice a9 len9 cap9)) hn12)
  replace HD := Lib.hid ((HD.out.put 0 (.int .i64 n9)).put 1 (.slice a9 len9 cap9))
  replace HY8 := Lib.hid (RB.Is.put (b := w2.heap.size) (RB.Is.put (b := w2.heap.size) HY8.out HF8.out hb27 0 (.int .i64 n9)) HF8.out hb27 1 (.slice a9 len9 cap9))
  replace HY9 := Lib.hid (RB.Is.put (b := w2.heap.size) (RB.Is.put (b := w2.heap.size) HY9.out HF9.out (by simpa using hb28) 0 (.int .i64 n9)) HF9.out (by simpa using hb28) 1 (.slice a9 len9 cap9))
  go_wp2_with fail
  with_reducible refine (same_is ⟨n8, a8, len8, cap8, l8⟩ ⟨n9, a9, len9, cap9, l9⟩ r3.1 r3.1 _ (by exact HY8.out) (by exact HY9.out)).mono ?_
  rw [decide_eq_true (rfl : r3.1 = r3.1)]
  rintro e w10 ⟨rfl, hk10⟩
  replace HK := Lib.hid (HK.out.trans hk10)
  clear hk10
  go_wp2_with fail
  go_ret
  exact ⟨rfl, HK.out⟩
end Go.Proofs.Ytkbdpdcandpfdaa
