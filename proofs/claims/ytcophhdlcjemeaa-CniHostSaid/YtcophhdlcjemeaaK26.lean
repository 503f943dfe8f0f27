/- The walk of CniHost. -/
import Derived.Test.YtcophhdlcjemeaaK21
import Derived.Test.YtcophhdlcjemeaaK22
import Derived.Test.YtcophhdlcjemeaaK25
import Derived.Test.YtcophhdlcjemeaaLater
namespace Go.Proofs.Ytcophhdlcjemeaa
open Go.RowKit
set_option linter.unusedVariables false
set_option linter.unusedSimpArgs false
set_option maxRecDepth 100000 in
set_option maxHeartbeats 8000000 in
theorem cniHost_any (a b : RCni) (nid nn mode : Int) (d : RY) (w : World) (hc : a.In w) (hc2 : b.In w) (hd : d.In w) (h47 : a.o.len ≤ 140737488355328) (h48 : ∀ x ∈ a.ms, x.d.len ≤ 140737488355328) :
    Calls Try.prog 7 #[a.val, b.val, .int .i64 nid, .int .i64 nn, .int .i64 mode, .slice d.a d.len d.cap] w fun e w' => e = .returned (.bool true) ∧ Keeps w w' := by
  have HC := Lib.hid hc
  have HC2 := Lib.hid hc2
  have HD := Lib.hid hd
  have HCL : Hid (a.n ≤ 20 → ∀ w, a.In w → Calls Try.prog 27 #[a.val] w (ClonePost a.p w)) := Lib.hid (fun h w hc => clone12_any a w hc ⟨h, h47, h48⟩)
  have HNE : Hid (∀ w, Calls Try.prog 37 #[.int .i64 nid, .int .i64 nn] w (CniPost (newP nid nn) (newE nid nn) w)) := Lib.hid (new_any nid nn)
  have HRNE : Hid (∀ w, Calls Try.prog 38 #[.int .i64 nid, .int .i64 nn] w (CniPost (newP nid nn) (newE nid nn) w)) := Lib.hid (rnew_any nid nn)
  have HWR : Hid (∀ w, a.In w → d.In w → Calls Try.prog 15 #[a.val, .slice d.a d.len d.cap] w (CniPost (writeP a.p d.l) (writeE a.p d.l) w)) := Lib.hid (write_any a d)
  have HRWR : Hid (∀ w, a.In w → d.In w → Calls Try.prog 40 #[a.val, .slice d.a d.len d.cap] w (CniPost (writeP a.p d.l) (writeE a.p d.l) w)) := Lib.hid (rwrite_any a d)
  have HBE : Hid (∀ w, a.In w → Calls Try.prog 19 #[a.val] w (CniPost (beatP a.p) (ownE a.p) w)) := Lib.hid (beat_any a)
  have HRBE : Hid (∀ w, a.In w → Calls Try.prog 41 #[a.val] w (CniPost (beatP a.p) (ownE a.p) w)) := Lib.hid (rbeat_any a)
  have HAS : Hid (∀ w, a.In w → Calls Try.prog 42 #[a.val, .int .i64 mode] w (CniPost (askP a.p mode) (askE a.p mode) w)) := Lib.hid (ask12_any a mode)
  have HRAS : Hid (∀ w, a.In w → Calls Try.prog 43 #[a.val, .int .i64 mode] w (CniPost (askP a.p mode) (askE a.p mode) w)) := Lib.hid (rask_any a mode)
  have HCK : Hid (∀ w, a.In w → Calls Try.prog 25 #[a.val] w fun e w' => e = .returned (.int .i64 (cond (cniOk a.p) 0 120)) ∧ Keeps w w') := Lib.hid (ccheck_any a)
  have HRCK : Hid (∀ w, a.In w → Calls Try.prog 33 #[a.val] w fun e w' => e = .returned (.int .i64 (cond (cniOk a.p) 0 120)) ∧ Keeps w w') := Lib.hid (rccheck_any a)
  have HSB : Hid (∀ w, a.In w → b.In w → Calls Try.prog 39 #[a.val, b.val] w fun e w' => e = .returned (.bool (sameC a.p b.p)) ∧ Keeps w w') := Lib.hid (same12_any a b)
  have HRSB : Hid (∀ w, a.In w → b.In w → Calls Try.prog 30 #[a.val, b.val] w fun e w' => e = .returned (.bool (sameC a.p b.p)) ∧ Keeps w w') := Lib.hid (rsame12_any a b)
  have HSS : Hid (∀ w, a.In w → Calls Try.prog 39 #[a.val, a.val] w fun e w' => e = .returned (.bool true) ∧ Keeps w w') := Lib.hid (fun w h => by have h2 := same12_any a a w h h; rw [sameC_self] at h2; exact h2)
  have HPE : Hid (∀ q : PCni, q = a.p → sameC a.p q = true) := Lib.hid (fun q h => by rw [h]; exact sameC_self _)
  have hdm := Nat.le_trans hd.cap hd.max
  clear hc hc2 hd h47 h48
  obtain ⟨P1, hP1⟩ : ∃ P1, P1 = newP nid nn := ⟨_, rfl⟩
  rw [← hP1] at HNE HRNE
  obtain ⟨E1, hE1⟩ : ∃ E1, E1 = newE nid nn := ⟨_, rfl⟩
  rw [← hE1] at HNE HRNE
  obtain ⟨P2, hP2⟩ : ∃ P2, P2 = writeP a.p d.l := ⟨_, rfl⟩
  rw [← hP2] at HWR HRWR
  obtain ⟨E2, hE2⟩ : ∃ E2, E2 = writeE a.p d.l := ⟨_, rfl⟩
  rw [← hE2] at HWR HRWR
  obtain ⟨P3, hP3⟩ : ∃ P3, P3 = beatP a.p := ⟨_, rfl⟩
  rw [← hP3] at HBE HRBE
  obtain ⟨E3, hE3⟩ : ∃ E3, E3 = ownE a.p := ⟨_, rfl⟩
  rw [← hE3] at HBE HRBE
  obtain ⟨P4, hP4⟩ : ∃ P4, P4 = askP a.p mode := ⟨_, rfl⟩
  rw [← hP4] at HAS HRAS
  obtain ⟨E4, hE4⟩ : ∃ E4, E4 = askE a.p mode := ⟨_, rfl⟩
  rw [← hE4] at HAS HRAS
  obtain ⟨CE, hCE⟩ : ∃ CE, CE = cond (cniOk a.p) (0 : Int) 120 := ⟨_, rfl⟩
  rw [← hCE] at HCK HRCK
  obtain ⟨AB, hAB⟩ : ∃ AB, AB = sameC a.p b.p := ⟨_, rfl⟩
  rw [← hAB] at HSB HRSB
  obtain ⟨PC, hPC⟩ : ∃ PC, PC = a.p := ⟨_, rfl⟩
  rw [← hPC] at HCL HPE
  have HPC := Lib.hid hPC
  clear hP1 hE1 hP2 hE2 hP3 hE3 hP4 hE4 hCE hAB hPC
  obtain ⟨aid, ⟨aoa, aolen, aocap, aol⟩, aia, an, acap, ams, alife, awant⟩ := a
  obtain ⟨bid, ⟨boa, bolen, bocap, bol⟩, bia, bn, bcap, bms, blife, bwant⟩ := b
  obtain ⟨da, dlen, dcap, dl⟩ := d
  simp only at hdm HCL
  have HK := Lib.hid (((Keeps.refl w).alloc (.cells #[.int .i64 aid, .slice aoa aolen aocap, .slice aia an acap, .int .i64 alife, .int .i64 awant] 39)).alloc (.cells #[.int .i64 bid, .slice boa bolen bocap, .slice bia bn bcap, .int .i64 blife, .int .i64 bwant] 39))
  have HB := Lib.hid ((Box.new w 39 #[.int .i64 aid, .slice aoa aolen aocap, .slice aia an acap, .int .i64 alife, .int .i64 awant]).next (.cells #[.int .i64 bid, .slice boa bolen bocap, .slice bia bn bcap, .int .i64 blife, .int .i64 bwant] 39))
  have hz := Box.new (w.alloc (.cells #[.int .i64 aid, .slice aoa aolen aocap, .slice aia an acap, .int .i64 alife, .int .i64 awant] 39)) 39 #[.int .i64 bid, .slice boa bolen bocap, .slice bia bn bcap, .int .i64 blife, .int .i64 bwant]
  rw [World.size_alloc] at hz
  have HB2 := Lib.hid hz
  clear hz
  show Calls Try.prog 7 #[.agg #[.int .i64 aid, .slice aoa aolen aocap, .slice aia an acap, .int .i64 alife, .int .i64 awant], .agg #[.int .i64 bid, .slice boa bolen bocap, .slice bia bn bcap, .int .i64 blife, .int .i64 bwant], .int .i64 nid, .int .i64 nn, .int .i64 mode, .slice da dlen dcap] w _
  go_enter Try.func7, Try.ntmps7
  go_wp2_with fail
  (with_reducible refine (begun12_any _).mono ?_)
  rintro e w1 ⟨rfl, hk1⟩
  replace HK := Lib.hid (HK.out.trans hk1)
  replace HB := Lib.hid (HB.out.keeps hk1)
  replace HB2 := Lib.hid (HB2.out.keeps hk1)
  clear hk1
  have p0 := HB.out.cell 0 _ rfl
  have p1 := HB.out.cell 1 _ rfl
  have p2 := HB.out.cell 2 _ rfl
  have p3 := HB.out.cell 3 _ rfl
  have p4 := HB.out.cell 4 _ rfl
  have pl := HB.out.lt
  have pf := HB.out.frozen
  go_wp2_with fail
  (with_reducible refine (few_any ⟨aid, ⟨aoa, aolen, aocap, aol⟩, aia, an, acap, ams, alife, awant⟩ _).mono ?_)
  rintro e w2 ⟨rfl, hk1⟩
  simp only
  replace HK := Lib.hid (HK.out.trans hk1)
  replace HB := Lib.hid (HB.out.keeps hk1)
  replace HB2 := Lib.hid (HB2.out.keeps hk1)
  clear hk1
  clear p0 p1 p2 p3 p4 pl pf
  have q0 := HB2.out.cell 0 _ rfl
  have q1 := HB2.out.cell 1 _ rfl
  have q2 := HB2.out.cell 2 _ rfl
  have q3 := HB2.out.cell 3 _ rfl
  have q4 := HB2.out.cell 4 _ rfl
  have ql := HB2.out.lt
  have qf := HB2.out.frozen
  by_cases h20 : an ≤ 20
  case neg =>
    have d1 : decide (an ≤ 20) = false := decide_eq_false h20
    have d2 : decide ((an : Int) ≤ 20) = false := by simp; omega
    go_wp2_with fail
    (with_reducible refine (begun12_any _).mono ?_)
    rintro e w3 ⟨rfl, hk1⟩
    replace HK := Lib.hid (HK.out.trans hk1)
    clear hk1
    go_wp2_with fail
    go_ret
    exact ⟨rfl, HK.out⟩
  have d10 : decide (an ≤ 20) = true := decide_eq_true h20
  have d20 : decide ((an : Int) ≤ 20) = true := by simp; omega
  go_wp2_with fail
  (with_reducible refine (few_any ⟨bid, ⟨boa, bolen, bocap, bol⟩, bia, bn, bcap, bms, blife, bwant⟩ _).mono ?_)
  rintro e w2b ⟨rfl, hk1⟩
  simp only
  replace HK := Lib.hid (HK.out.trans hk1)
  replace HB := Lib.hid (HB.out.keeps hk1)
  replace HB2 := Lib.hid (HB2.out.keeps hk1)
  clear hk1
  clear q0 q1 q2 q3 q4 ql qf
  have p0 := HB.out.cell 0 _ rfl
  have p1 := HB.out.cell 1 _ rfl
  have p2 := HB.out.cell 2 _ rfl
  have p3 := HB.out.cell 3 _ rfl
  have p4 := HB.out.cell 4 _ rfl
  have pl := HB.out.lt
  have pf := HB.out.frozen
  by_cases h21 : bn ≤ 20
  case neg =>
    have d1 : decide (bn ≤ 20) = false := decide_eq_false h21
    have d2 : decide ((bn : Int) ≤ 20) = false := by simp; omega
    go_wp2_with fail
    (with_reducible refine (begun12_any _).mono ?_)
    rintro e w3 ⟨rfl, hk1⟩
    replace HK := Lib.hid (HK.out.trans hk1)
    clear hk1
    go_wp2_with fail
    go_ret
    exact ⟨rfl, HK.out⟩
  have d11 : decide (bn ≤ 20) = true := decide_eq_true h21
  have d21 : decide ((bn : Int) ≤ 20) = true := by simp; omega
  replace HCL := Lib.hid (HCL.out h20)
  go_wp2_with fail
  (with_reducible refine (HCL.out _ (by exact HC.out.keeps HK.out)).mono ?_)
  rintro e w3 ⟨⟨zid, ⟨zoa, zolen, zocap, zol⟩, zia, zn, zcap, zms, zlife, zwant⟩, he, hp, ho, hk1⟩
  have he2 : e = .returned (.agg #[.int .i64 zid, .slice zoa zolen zocap, .slice zia zn zcap, .int .i64 zlife, .int .i64 zwant]) := he
  clear he
  subst he2
  have HZP := Lib.hid (HPE.out _ hp)
  have HZI := Lib.hid ho.isIn
  have HKZ := Lib.hid (Keeps.refl w3)
  replace HK := Lib.hid (HK.out.trans hk1)
  replace HB := Lib.hid (HB.out.keeps hk1)
  replace HB2 := Lib.hid (HB2.out.keeps hk1)
  clear hk1 hp ho HCL HPE d10 d20 d11 d21
  clear p0 p1 p2 p3 p4 pl pf
  have HZB := Lib.hid (Box.new w3 39 #[.int .i64 zid, .slice zoa zolen zocap, .slice zia zn zcap, .int .i64 zlife, .int .i64 zwant])
  replace HK := Lib.hid (HK.out.alloc (.cells #[.int .i64 zid, .slice zoa zolen zocap, .slice zia zn zcap, .int .i64 zlife, .int .i64 zwant] 39))
  replace HB := Lib.hid (HB.out.next (.cells #[.int .i64 zid, .slice zoa zolen zocap, .slice zia zn zcap, .int .i64 zlife, .int .i64 zwant] 39))
  replace HB2 := Lib.hid (HB2.out.next (.cells #[.int .i64 zid, .slice zoa zolen zocap, .slice zia zn zcap, .int .i64 zlife, .int .i64 zwant] 39))
  replace HKZ := Lib.hid (HKZ.out.alloc (.cells #[.int .i64 zid, .slice zoa zolen zocap, .slice zia zn zcap, .int .i64 zlife, .int .i64 zwant] 39))
  go_wp2_with fail
  (with_reducible refine (HNE.out _).mono ?_)
  rintro e w4 ⟨⟨xid, ⟨xoa, xolen, xocap, xol⟩, xia, xn, xcap, xms, xlife, xwant⟩, he, hp, ho, hk1⟩
  have he2 : e = .returned (.tuple #[.agg #[.int .i64 xid, .slice xoa xolen xocap, .slice xia xn xcap, .int .i64 xlife, .int .i64 xwant], .int .i64 E1]) := he
  clear he
  subst he2
  have HxP := Lib.hid hp
  have HxI := Lib.hid ho.isIn
  replace HK := Lib.hid (HK.out.trans hk1)
  replace HB := Lib.hid (HB.out.keeps hk1)
  replace HB2 := Lib.hid (HB2.out.keeps hk1)
  replace HKZ := Lib.hid (HKZ.out.trans hk1)
  replace HZB := Lib.hid (HZB.out.keeps hk1)
  clear hk1 hp ho HNE
  have hq5 : w3.heap.size < w4.heap.size := HZB.out.lt
  have hq6 : w.heap.size + 1 < w4.heap.size := HB2.out.lt
  have HxB := Lib.hid (Box.new w4 39 #[.int .i64 xid, .slice xoa xolen xocap, .slice xia xn xcap, .int .i64 xlife, .int .i64 xwant])
  replace HK := Lib.hid (HK.out.alloc (.cells #[.int .i64 xid, .slice xoa xolen xocap, .slice xia xn xcap, .int .i64 xlife, .int .i64 xwant] 39))
  replace HB := Lib.hid (HB.out.next (.cells #[.int .i64 xid, .slice xoa xolen xocap, .slice xia xn xcap, .int .i64 xlife, .int .i64 xwant] 39))
  replace HB2 := Lib.hid (HB2.out.next (.cells #[.int .i64 xid, .slice xoa xolen xocap, .slice xia xn xcap, .int .i64 xlife, .int .i64 xwant] 39))
  replace HKZ := Lib.hid (HKZ.out.alloc (.cells #[.int .i64 xid, .slice xoa xolen xocap, .slice xia xn xcap, .int .i64 xlife, .int .i64 xwant] 39))
  replace HZB := Lib.hid (HZB.out.next (.cells #[.int .i64 xid, .slice xoa xolen xocap, .slice xia xn xcap, .int .i64 xlife, .int .i64 xwant] 39))
  replace HxI := Lib.hid (HxI.out.keeps ((Keeps.refl _).alloc (.cells #[.int .i64 xid, .slice xoa xolen xocap, .slice xia xn xcap, .int .i64 xlife, .int .i64 xwant] 39)))
  go_wp2_with fail
  (with_reducible refine (HRNE.out _).mono ?_)
  rintro e w5 ⟨⟨yid, ⟨yoa, yolen, yocap, yol⟩, yia, yn, ycap, yms, ylife, ywant⟩, he, hp, ho, hk1⟩
  have he2 : e = .returned (.tuple #[.agg #[.int .i64 yid, .slice yoa yolen yocap, .slice yia yn ycap, .int .i64 ylife, .int .i64 ywant], .int .i64 E1]) := he
  clear he
  subst he2
  have HyP := Lib.hid hp
  have HyI := Lib.hid ho.isIn
  replace HK := Lib.hid (HK.out.trans hk1)
  replace HB := Lib.hid (HB.out.keeps hk1)
  replace HB2 := Lib.hid (HB2.out.keeps hk1)
  replace HKZ := Lib.hid (HKZ.out.trans hk1)
  replace HZB := Lib.hid (HZB.out.keeps hk1)
  replace HxI := Lib.hid (HxI.out.keeps hk1)
  replace HxB := Lib.hid (HxB.out.keeps hk1)
  clear hk1 hp ho HRNE
  have hq7 : w4.heap.size < w5.heap.size := HxB.out.lt
  have HyB := Lib.hid (Box.new w5 39 #[.int .i64 yid, .slice yoa yolen yocap, .slice yia yn ycap, .int .i64 ylife, .int .i64 ywant])
  replace HK := Lib.hid (HK.out.alloc (.cells #[.int .i64 yid, .slice yoa yolen yocap, .slice yia yn ycap, .int .i64 ylife, .int .i64 ywant] 39))
  replace HB := Lib.hid (HB.out.next (.cells #[.int .i64 yid, .slice yoa yolen yocap, .slice yia yn ycap, .int .i64 ylife, .int .i64 ywant] 39))
  replace HB2 := Lib.hid (HB2.out.next (.cells #[.int .i64 yid, .slice yoa yolen yocap, .slice yia yn ycap, .int .i64 ylife, .int .i64 ywant] 39))
  replace HKZ := Lib.hid (HKZ.out.alloc (.cells #[.int .i64 yid, .slice yoa yolen yocap, .slice yia yn ycap, .int .i64 ylife, .int .i64 ywant] 39))
  replace HZB := Lib.hid (HZB.out.next (.cells #[.int .i64 yid, .slice yoa yolen yocap, .slice yia yn ycap, .int .i64 ylife, .int .i64 ywant] 39))
  replace HxI := Lib.hid (HxI.out.keeps ((Keeps.refl _).alloc (.cells #[.int .i64 yid, .slice yoa yolen yocap, .slice yia yn ycap, .int .i64 ylife, .int .i64 ywant] 39)))
  replace HxB := Lib.hid (HxB.out.next (.cells #[.int .i64 yid, .slice yoa yolen yocap, .slice yia yn ycap, .int .i64 ylife, .int .i64 ywant] 39))
  replace HyI := Lib.hid (HyI.out.keeps ((Keeps.refl _).alloc (.cells #[.int .i64 yid, .slice yoa yolen yocap, .slice yia yn ycap, .int .i64 ylife, .int .i64 ywant] 39)))
  obtain ⟨X, hX⟩ : ∃ X, X = w4.heap.size := ⟨_, rfl⟩
  obtain ⟨Y, hY⟩ : ∃ Y, Y = w5.heap.size := ⟨_, rfl⟩
  have hwX : w.heap.size + 1 < X := by rw [hX]; exact hq6
  have hzX : w3.heap.size < X := by rw [hX]; exact hq5
  have hXY : X < Y := by rw [hX, hY]; exact hq7
  go_wp2_with fail
  rw [← hX] at HxB ⊢
  rw [← hY] at HyB ⊢
  clear hX hY hq5 hq6 hq7
  obtain ⟨W, hW⟩ : ∃ W, W = w5.alloc (.cells #[.int .i64 yid, .slice yoa yolen yocap, .slice yia yn ycap, .int .i64 ylife, .int .i64 ywant] 39) := ⟨_, rfl⟩
  rw [← hW] at HK HKZ HB HB2 HZB HxB HyB HxI HyI ⊢
  clear hW
  have HSM : Hid (sameC (RCni.p ⟨xid, ⟨xoa, xolen, xocap, xol⟩, xia, xn, xcap, xms, xlife, xwant⟩) (RCni.p ⟨yid, ⟨yoa, yolen, yocap, yol⟩, yia, yn, ycap, yms, ylife, ywant⟩) = true) := Lib.hid (by rw [HxP.out, HyP.out]; exact sameC_self _)
  have HCI := Lib.hid (HC.out.keeps HK.out)
  have HCI2 := Lib.hid (HC2.out.keeps HK.out)
  have HSX : Hid (∀ w, RCni.In ⟨xid, ⟨xoa, xolen, xocap, xol⟩, xia, xn, xcap, xms, xlife, xwant⟩ w → RCni.In ⟨yid, ⟨yoa, yolen, yocap, yol⟩, yia, yn, ycap, yms, ylife, ywant⟩ w → Calls Try.prog 30 #[RCni.val ⟨xid, ⟨xoa, xolen, xocap, xol⟩, xia, xn, xcap, xms, xlife, xwant⟩, RCni.val ⟨yid, ⟨yoa, yolen, yocap, yol⟩, yia, yn, ycap, yms, ylife, ywant⟩] w fun e w' => e = .returned (.bool true) ∧ Keeps w w') := Lib.hid (fun w h1 h2 => by have h := rsame12_any ⟨xid, ⟨xoa, xolen, xocap, xol⟩, xia, xn, xcap, xms, xlife, xwant⟩ ⟨yid, ⟨yoa, yolen, yocap, yol⟩, yia, yn, ycap, yms, ylife, ywant⟩ w h1 h2; rw [HSM.out] at h; exact h)
  have lg0 := HB.out.later 0 _ rfl
  have lg1 := HB.out.later 1 _ rfl
  have lg2 := HB.out.later 2 _ rfl
  have lg3 := HB.out.later 3 _ rfl
  have lg4 := HB.out.later 4 _ rfl
  have lh0 := HB2.out.later 0 _ rfl
  have lh1 := HB2.out.later 1 _ rfl
  have lh2 := HB2.out.later 2 _ rfl
  have lh3 := HB2.out.later 3 _ rfl
  have lh4 := HB2.out.later 4 _ rfl
  have li0 := HxB.out.later 0 _ rfl
  have li1 := HxB.out.later 1 _ rfl
  have li2 := HxB.out.later 2 _ rfl
  have li3 := HxB.out.later 3 _ rfl
  have li4 := HxB.out.later 4 _ rfl
  have lj0 := HyB.out.later 0 _ rfl
  have lj1 := HyB.out.later 1 _ rfl
  have lj2 := HyB.out.later 2 _ rfl
  have lj3 := HyB.out.later 3 _ rfl
  have lj4 := HyB.out.later 4 _ rfl
  refine wp_region_later (by kernel_rfl) (by kernel_rfl) ?_
  repeat (go_big_quiet_step (first
    | (go_at_call 30; with_reducible exact Later.calls _ (HSX.out _ (HxI.out.keeps (Later.keeps _)) (HyI.out.keeps (Later.keeps _))))
    | (go_at_call 30; with_reducible exact Later.calls _ (HRSB.out _ (HCI.out.keeps (Later.keeps _)) (HCI2.out.keeps (Later.keeps _))))
    | (go_at_call 25; with_reducible exact Later.calls _ (HCK.out _ (HCI.out.keeps (Later.keeps _))))
    | (go_at_call 33; with_reducible exact Later.calls _ (HRCK.out _ (HCI.out.keeps (Later.keeps _))))
    | (go_at_call 39; with_reducible exact Later.calls _ (HSB.out _ (HCI.out.keeps (Later.keeps _)) (HCI2.out.keeps (Later.keeps _))))
    | (go_at_call 39; with_reducible exact Later.calls _ (HSS.out _ (HCI.out.keeps (Later.keeps _))))))
  refine wpQuiet_nil ?_
  rintro _ ⟨k, rfl⟩
  have hk1 := k.keeps
  obtain ⟨WL, hWL⟩ : ∃ WL, WL = k.w := ⟨_, rfl⟩
  rw [← hWL] at hk1 ⊢
  replace HK := Lib.hid (HK.out.trans hk1)
  replace HB := Lib.hid (HB.out.keeps hk1)
  replace HB2 := Lib.hid (HB2.out.keeps hk1)
  replace HKZ := Lib.hid (HKZ.out.trans hk1)
  replace HZB := Lib.hid (HZB.out.keeps hk1)
  replace HxB := Lib.hid (HxB.out.keeps hk1)
  replace HyB := Lib.hid (HyB.out.keeps hk1)
  clear hWL hk1 HSM HSX HCI HCI2 HxI HyI HxP HyP HCK HRCK HSB HRSB HSS lg0 lg1 lg2 lg3 lg4 lh0 lh1 lh2 lh3 lh4 li0 li1 li2 li3 li4 lj0 lj1 lj2 lj3 lj4
  have p0 := HB.out.cell 0 _ rfl
  have p1 := HB.out.cell 1 _ rfl
  have p2 := HB.out.cell 2 _ rfl
  have p3 := HB.out.cell 3 _ rfl
  have p4 := HB.out.cell 4 _ rfl
  have pl := HB.out.lt
  have pf := HB.out.frozen
  have x0 := HxB.out.cell 0 _ rfl
  have x1 := HxB.out.cell 1 _ rfl
  have x2 := HxB.out.cell 2 _ rfl
  have x3 := HxB.out.cell 3 _ rfl
  have x4 := HxB.out.cell 4 _ rfl
  have xl := HxB.out.lt
  have xf := HxB.out.frozen
  go_wp2_with fail
  (with_reducible refine (HWR.out _ (by exact HC.out.keeps HK.out) (by exact HD.out.keeps HK.out)).mono ?_)
  rintro e wA0 ⟨⟨uid, ⟨uoa, uolen, uocap, uol⟩, uia, un, ucap, ums, ulife, uwant⟩, he, hp, ho, hk1⟩
  have he2 : e = .returned (.tuple #[.agg #[.int .i64 uid, .slice uoa uolen uocap, .slice uia un ucap, .int .i64 ulife, .int .i64 uwant], .int .i64 E2]) := he
  clear he
  subst he2
  have HuP := Lib.hid hp
  have hYw := HyB.out.lt
  have HuO : Hid (RCni.Own ⟨uid, ⟨uoa, uolen, uocap, uol⟩, uia, un, ucap, ums, ulife, uwant⟩ wA0 (Y + 1)) := Lib.hid (ho.mono (by omega))
  replace HK := Lib.hid (HK.out.trans hk1)
  replace HB := Lib.hid (HB.out.keeps hk1)
  replace HB2 := Lib.hid (HB2.out.keeps hk1)
  replace HKZ := Lib.hid (HKZ.out.trans hk1)
  replace HZB := Lib.hid (HZB.out.keeps hk1)
  replace HxB := Lib.hid (HxB.out.keeps hk1)
  replace HyB := Lib.hid (HyB.out.keeps hk1)
  clear hk1 hp ho HWR hYw
  clear p0 p1 p2 p3 p4 pl pf
  clear x0 x1 x2 x3 x4 xl xf
  have p0 := HB.out.cell 0 _ rfl
  have p1 := HB.out.cell 1 _ rfl
  have p2 := HB.out.cell 2 _ rfl
  have p3 := HB.out.cell 3 _ rfl
  have p4 := HB.out.cell 4 _ rfl
  have pl := HB.out.lt
  have pf := HB.out.frozen
  have x0 := HxB.out.cell 0 _ rfl
  have x1 := HxB.out.cell 1 _ rfl
  have x2 := HxB.out.cell 2 _ rfl
  have x3 := HxB.out.cell 3 _ rfl
  have x4 := HxB.out.cell 4 _ rfl
  have xl := HxB.out.lt
  have xf := HxB.out.frozen
  go_upto_region 9 with fail
  obtain ⟨WA0, hWa⟩ : ∃ W, W = (((((wA0.setCell ⟨X, 0, none⟩ (.int .i64 uid)).setCell ⟨X, 1, none⟩ (.slice uoa uolen uocap)).setCell ⟨X, 2, none⟩ (.slice uia un ucap)).setCell ⟨X, 3, none⟩ (.int .i64 ulife)).setCell ⟨X, 4, none⟩ (.int .i64 uwant)) := ⟨_, rfl⟩
  have HxBn : Hid (Box WA0 X 39 #[.int .i64 uid, .slice uoa uolen uocap, .slice uia un ucap, .int .i64 ulife, .int .i64 uwant]) := Lib.hid (by rw [hWa]; exact Box.putC (x := ⟨xid, ⟨xoa, xolen, xocap, xol⟩, xia, xn, xcap, xms, xlife, xwant⟩) HxB.out ⟨uid, ⟨uoa, uolen, uocap, uol⟩, uia, un, ucap, ums, ulife, uwant⟩)
  have HuOn : Hid (RCni.Own ⟨uid, ⟨uoa, uolen, uocap, uol⟩, uia, un, ucap, ums, ulife, uwant⟩ WA0 (Y + 1)) := Lib.hid (by rw [hWa]; exact HuO.out.putC (C := X) (by omega) ⟨uid, ⟨uoa, uolen, uocap, uol⟩, uia, un, ucap, ums, ulife, uwant⟩)
  have HKn : Hid (Keeps w WA0) := Lib.hid (by rw [hWa]; exact HK.out.putC (C := X) (by omega) ⟨uid, ⟨uoa, uolen, uocap, uol⟩, uia, un, ucap, ums, ulife, uwant⟩)
  have HKZn : Hid (Keeps w3 WA0) := Lib.hid (by rw [hWa]; exact HKZ.out.putC (C := X) (by omega) ⟨uid, ⟨uoa, uolen, uocap, uol⟩, uia, un, ucap, ums, ulife, uwant⟩)
  have HBn : Hid (Box WA0 w.heap.size 39 #[.int .i64 aid, .slice aoa aolen aocap, .slice aia an acap, .int .i64 alife, .int .i64 awant]) := Lib.hid (by rw [hWa]; exact Box.putO HB.out (by omega) ⟨uid, ⟨uoa, uolen, uocap, uol⟩, uia, un, ucap, ums, ulife, uwant⟩)
  have HB2n : Hid (Box WA0 (w.heap.size + 1) 39 #[.int .i64 bid, .slice boa bolen bocap, .slice bia bn bcap, .int .i64 blife, .int .i64 bwant]) := Lib.hid (by rw [hWa]; exact Box.putO HB2.out (by omega) ⟨uid, ⟨uoa, uolen, uocap, uol⟩, uia, un, ucap, ums, ulife, uwant⟩)
  have HZBn : Hid (Box WA0 w3.heap.size 39 #[.int .i64 zid, .slice zoa zolen zocap, .slice zia zn zcap, .int .i64 zlife, .int .i64 zwant]) := Lib.hid (by rw [hWa]; exact Box.putO HZB.out (by omega) ⟨uid, ⟨uoa, uolen, uocap, uol⟩, uia, un, ucap, ums, ulife, uwant⟩)
  have HyBn : Hid (Box WA0 Y 39 #[.int .i64 yid, .slice yoa yolen yocap, .slice yia yn ycap, .int .i64 ylife, .int .i64 ywant]) := Lib.hid (by rw [hWa]; exact Box.putO HyB.out (by omega) ⟨uid, ⟨uoa, uolen, uocap, uol⟩, uia, un, ucap, ums, ulife, uwant⟩)
  rw [← hWa]
  clear hWa HxB HuO HK HKZ HB HB2 HZB HyB
  clear p0 p1 p2 p3 p4 pl pf
  clear x0 x1 x2 x3 x4 xl xf
  have HxB := HxBn
  clear HxBn
  have HuO := HuOn
  clear HuOn
  have HK := HKn
  clear HKn
  have HKZ := HKZn
  clear HKZn
  have HB := HBn
  clear HBn
  have HB2 := HB2n
  clear HB2n
  have HZB := HZBn
  clear HZBn
  have HyB := HyBn
  clear HyBn
  have p0 := HB.out.cell 0 _ rfl
  have p1 := HB.out.cell 1 _ rfl
  have p2 := HB.out.cell 2 _ rfl
  have p3 := HB.out.cell 3 _ rfl
  have p4 := HB.out.cell 4 _ rfl
  have pl := HB.out.lt
  have pf := HB.out.frozen
  have y0 := HyB.out.cell 0 _ rfl
  have y1 := HyB.out.cell 1 _ rfl
  have y2 := HyB.out.cell 2 _ rfl
  have y3 := HyB.out.cell 3 _ rfl
  have y4 := HyB.out.cell 4 _ rfl
  have yl := HyB.out.lt
  have yf := HyB.out.frozen
  go_wp2_with fail
  (with_reducible refine (HRWR.out _ (by exact HC.out.keeps HK.out) (by exact HD.out.keeps HK.out)).mono ?_)
  rintro e wB0 ⟨⟨vid, ⟨voa, volen, vocap, vol⟩, via, vn, vcap, vms, vlife, vwant⟩, he, hp, ho, hk1⟩
  have he2 : e = .returned (.tuple #[.agg #[.int .i64 vid, .slice voa volen vocap, .slice via vn vcap, .int .i64 vlife, .int .i64 vwant], .int .i64 E2]) := he
  clear he
  subst he2
  have HvP := Lib.hid hp
  have hYw := HyB.out.lt
  have HvO : Hid (RCni.Own ⟨vid, ⟨voa, volen, vocap, vol⟩, via, vn, vcap, vms, vlife, vwant⟩ wB0 (Y + 1)) := Lib.hid (ho.mono (by omega))
  replace HK := Lib.hid (HK.out.trans hk1)
  replace HKZ := Lib.hid (HKZ.out.trans hk1)
  replace HB := Lib.hid (HB.out.keeps hk1)
  replace HB2 := Lib.hid (HB2.out.keeps hk1)
  replace HZB := Lib.hid (HZB.out.keeps hk1)
  replace HxB := Lib.hid (HxB.out.keeps hk1)
  replace HyB := Lib.hid (HyB.out.keeps hk1)
  replace HuO := Lib.hid (HuO.out.keeps hk1)
  clear hk1 hp ho HRWR hYw
  clear p0 p1 p2 p3 p4 pl pf
  clear y0 y1 y2 y3 y4 yl yf
  have p0 := HB.out.cell 0 _ rfl
  have p1 := HB.out.cell 1 _ rfl
  have p2 := HB.out.cell 2 _ rfl
  have p3 := HB.out.cell 3 _ rfl
  have p4 := HB.out.cell 4 _ rfl
  have pl := HB.out.lt
  have pf := HB.out.frozen
  have y0 := HyB.out.cell 0 _ rfl
  have y1 := HyB.out.cell 1 _ rfl
  have y2 := HyB.out.cell 2 _ rfl
  have y3 := HyB.out.cell 3 _ rfl
  have y4 := HyB.out.cell 4 _ rfl
  have yl := HyB.out.lt
  have yf := HyB.out.frozen
  go_upto_region 10 with fail
  obtain ⟨WB0, hWb⟩ : ∃ W, W = (((((wB0.setCell ⟨Y, 0, none⟩ (.int .i64 vid)).setCell ⟨Y, 1, none⟩ (.slice voa volen vocap)).setCell ⟨Y, 2, none⟩ (.slice via vn vcap)).setCell ⟨Y, 3, none⟩ (.int .i64 vlife)).setCell ⟨Y, 4, none⟩ (.int .i64 vwant)) := ⟨_, rfl⟩
  have HyBn : Hid (Box WB0 Y 39 #[.int .i64 vid, .slice voa volen vocap, .slice via vn vcap, .int .i64 vlife, .int .i64 vwant]) := Lib.hid (by rw [hWb]; exact Box.putC (x := ⟨yid, ⟨yoa, yolen, yocap, yol⟩, yia, yn, ycap, yms, ylife, ywant⟩) HyB.out ⟨vid, ⟨voa, volen, vocap, vol⟩, via, vn, vcap, vms, vlife, vwant⟩)
  have HuIn : Hid (RCni.In ⟨uid, ⟨uoa, uolen, uocap, uol⟩, uia, un, ucap, ums, ulife, uwant⟩ WB0) := Lib.hid (by rw [hWb]; exact (HuO.out.putC (C := Y) (by omega) ⟨vid, ⟨voa, volen, vocap, vol⟩, via, vn, vcap, vms, vlife, vwant⟩).isIn)
  have HvIn : Hid (RCni.In ⟨vid, ⟨voa, volen, vocap, vol⟩, via, vn, vcap, vms, vlife, vwant⟩ WB0) := Lib.hid (by rw [hWb]; exact (HvO.out.putC (C := Y) (by omega) ⟨vid, ⟨voa, volen, vocap, vol⟩, via, vn, vcap, vms, vlife, vwant⟩).isIn)
  have HKn : Hid (Keeps w WB0) := Lib.hid (by rw [hWb]; exact HK.out.putC (C := Y) (by omega) ⟨vid, ⟨voa, volen, vocap, vol⟩, via, vn, vcap, vms, vlife, vwant⟩)
  have HKZn : Hid (Keeps w3 WB0) := Lib.hid (by rw [hWb]; exact HKZ.out.putC (C := Y) (by omega) ⟨vid, ⟨voa, volen, vocap, vol⟩, via, vn, vcap, vms, vlife, vwant⟩)
  have HBn : Hid (Box WB0 w.heap.size 39 #[.int .i64 aid, .slice aoa aolen aocap, .slice aia an acap, .int .i64 alife, .int .i64 awant]) := Lib.hid (by rw [hWb]; exact Box.putO HB.out (by omega) ⟨vid, ⟨voa, volen, vocap, vol⟩, via, vn, vcap, vms, vlife, vwant⟩)
  have HB2n : Hid (Box WB0 (w.heap.size + 1) 39 #[.int .i64 bid, .slice boa bolen bocap, .slice bia bn bcap, .int .i64 blife, .int .i64 bwant]) := Lib.hid (by rw [hWb]; exact Box.putO HB2.out (by omega) ⟨vid, ⟨voa, volen, vocap, vol⟩, via, vn, vcap, vms, vlife, vwant⟩)
  have HZBn : Hid (Box WB0 w3.heap.size 39 #[.int .i64 zid, .slice zoa zolen zocap, .slice zia zn zcap, .int .i64 zlife, .int .i64 zwant]) := Lib.hid (by rw [hWb]; exact Box.putO HZB.out (by omega) ⟨vid, ⟨voa, volen, vocap, vol⟩, via, vn, vcap, vms, vlife, vwant⟩)
  have HxBn : Hid (Box WB0 X 39 #[.int .i64 uid, .slice uoa uolen uocap, .slice uia un ucap, .int .i64 ulife, .int .i64 uwant]) := Lib.hid (by rw [hWb]; exact Box.putO HxB.out (by omega) ⟨vid, ⟨voa, volen, vocap, vol⟩, via, vn, vcap, vms, vlife, vwant⟩)
  rw [← hWb]
  clear hWb HxB HuO HvO HK HKZ HB HB2 HZB HyB
  clear p0 p1 p2 p3 p4 pl pf
  clear y0 y1 y2 y3 y4 yl yf
  have HxB := HxBn
  clear HxBn
  have HK := HKn
  clear HKn
  have HKZ := HKZn
  clear HKZn
  have HB := HBn
  clear HBn
  have HB2 := HB2n
  clear HB2n
  have HZB := HZBn
  clear HZBn
  have HyB := HyBn
  clear HyBn
  have HuI := HuIn
  clear HuIn
  have HvI := HvIn
  clear HvIn
  have HSM : Hid (sameC (RCni.p ⟨uid, ⟨uoa, uolen, uocap, uol⟩, uia, un, ucap, ums, ulife, uwant⟩) (RCni.p ⟨vid, ⟨voa, volen, vocap, vol⟩, via, vn, vcap, vms, vlife, vwant⟩) = true) := Lib.hid (by rw [HuP.out, HvP.out]; exact sameC_self _)
  have x0 := HxB.out.cell 0 _ rfl
  have x1 := HxB.out.cell 1 _ rfl
  have x2 := HxB.out.cell 2 _ rfl
  have x3 := HxB.out.cell 3 _ rfl
  have x4 := HxB.out.cell 4 _ rfl
  have xl := HxB.out.lt
  have xf := HxB.out.frozen
  have y0 := HyB.out.cell 0 _ rfl
  have y1 := HyB.out.cell 1 _ rfl
  have y2 := HyB.out.cell 2 _ rfl
  have y3 := HyB.out.cell 3 _ rfl
  have y4 := HyB.out.cell 4 _ rfl
  have yl := HyB.out.lt
  have yf := HyB.out.frozen
  go_wp2_with fail
  (with_reducible refine (rsame12_any ⟨uid, ⟨uoa, uolen, uocap, uol⟩, uia, un, ucap, ums, ulife, uwant⟩ ⟨vid, ⟨voa, volen, vocap, vol⟩, via, vn, vcap, vms, vlife, vwant⟩ _ (by exact HuI.out) (by exact HvI.out)).mono ?_)
  rw [HSM.out]
  rintro e wC0 ⟨rfl, hk1⟩
  replace HK := Lib.hid (HK.out.trans hk1)
  replace HKZ := Lib.hid (HKZ.out.trans hk1)
  replace HB := Lib.hid (HB.out.keeps hk1)
  replace HB2 := Lib.hid (HB2.out.keeps hk1)
  replace HZB := Lib.hid (HZB.out.keeps hk1)
  replace HxB := Lib.hid (HxB.out.keeps hk1)
  replace HyB := Lib.hid (HyB.out.keeps hk1)
  clear hk1 HSM HuI HvI HuP HvP
  clear x0 x1 x2 x3 x4 xl xf
  clear y0 y1 y2 y3 y4 yl yf
  have p0 := HB.out.cell 0 _ rfl
  have p1 := HB.out.cell 1 _ rfl
  have p2 := HB.out.cell 2 _ rfl
  have p3 := HB.out.cell 3 _ rfl
  have p4 := HB.out.cell 4 _ rfl
  have pl := HB.out.lt
  have pf := HB.out.frozen
  have x0 := HxB.out.cell 0 _ rfl
  have x1 := HxB.out.cell 1 _ rfl
  have x2 := HxB.out.cell 2 _ rfl
  have x3 := HxB.out.cell 3 _ rfl
  have x4 := HxB.out.cell 4 _ rfl
  have xl := HxB.out.lt
  have xf := HxB.out.frozen
  go_wp2_with fail
  (with_reducible refine (HBE.out _ (by exact HC.out.keeps HK.out)).mono ?_)
  rintro e wA1 ⟨⟨sid, ⟨soa, solen, socap, sol⟩, sia, sn, scap, sms, slife, swant⟩, he, hp, ho, hk1⟩
  have he2 : e = .returned (.tuple #[.agg #[.int .i64 sid, .slice soa solen socap, .slice sia sn scap, .int .i64 slife, .int .i64 swant], .int .i64 E3]) := he
  clear he
  subst he2
  have HuP := Lib.hid hp
  have hYw := HyB.out.lt
  have HuO : Hid (RCni.Own ⟨sid, ⟨soa, solen, socap, sol⟩, sia, sn, scap, sms, slife, swant⟩ wA1 (Y + 1)) := Lib.hid (ho.mono (by omega))
  replace HK := Lib.hid (HK.out.trans hk1)
  replace HKZ := Lib.hid (HKZ.out.trans hk1)
  replace HB := Lib.hid (HB.out.keeps hk1)
  replace HB2 := Lib.hid (HB2.out.keeps hk1)
  replace HZB := Lib.hid (HZB.out.keeps hk1)
  replace HxB := Lib.hid (HxB.out.keeps hk1)
  replace HyB := Lib.hid (HyB.out.keeps hk1)
  clear hk1 hp ho HBE hYw
  clear p0 p1 p2 p3 p4 pl pf
  clear x0 x1 x2 x3 x4 xl xf
  have p0 := HB.out.cell 0 _ rfl
  have p1 := HB.out.cell 1 _ rfl
  have p2 := HB.out.cell 2 _ rfl
  have p3 := HB.out.cell 3 _ rfl
  have p4 := HB.out.cell 4 _ rfl
  have pl := HB.out.lt
  have pf := HB.out.frozen
  have x0 := HxB.out.cell 0 _ rfl
  have x1 := HxB.out.cell 1 _ rfl
  have x2 := HxB.out.cell 2 _ rfl
  have x3 := HxB.out.cell 3 _ rfl
  have x4 := HxB.out.cell 4 _ rfl
  have xl := HxB.out.lt
  have xf := HxB.out.frozen
  go_upto_region 13 with fail
  obtain ⟨WA1, hWa⟩ : ∃ W, W = (((((wA1.setCell ⟨X, 0, none⟩ (.int .i64 sid)).setCell ⟨X, 1, none⟩ (.slice soa solen socap)).setCell ⟨X, 2, none⟩ (.slice sia sn scap)).setCell ⟨X, 3, none⟩ (.int .i64 slife)).setCell ⟨X, 4, none⟩ (.int .i64 swant)) := ⟨_, rfl⟩
  have HxBn : Hid (Box WA1 X 39 #[.int .i64 sid, .slice soa solen socap, .slice sia sn scap, .int .i64 slife, .int .i64 swant]) := Lib.hid (by rw [hWa]; exact Box.putC (x := ⟨uid, ⟨uoa, uolen, uocap, uol⟩, uia, un, ucap, ums, ulife, uwant⟩) HxB.out ⟨sid, ⟨soa, solen, socap, sol⟩, sia, sn, scap, sms, slife, swant⟩)
  have HuOn : Hid (RCni.Own ⟨sid, ⟨soa, solen, socap, sol⟩, sia, sn, scap, sms, slife, swant⟩ WA1 (Y + 1)) := Lib.hid (by rw [hWa]; exact HuO.out.putC (C := X) (by omega) ⟨sid, ⟨soa, solen, socap, sol⟩, sia, sn, scap, sms, slife, swant⟩)
  have HKn : Hid (Keeps w WA1) := Lib.hid (by rw [hWa]; exact HK.out.putC (C := X) (by omega) ⟨sid, ⟨soa, solen, socap, sol⟩, sia, sn, scap, sms, slife, swant⟩)
  have HKZn : Hid (Keeps w3 WA1) := Lib.hid (by rw [hWa]; exact HKZ.out.putC (C := X) (by omega) ⟨sid, ⟨soa, solen, socap, sol⟩, sia, sn, scap, sms, slife, swant⟩)
  have HBn : Hid (Box WA1 w.heap.size 39 #[.int .i64 aid, .slice aoa aolen aocap, .slice aia an acap, .int .i64 alife, .int .i64 awant]) := Lib.hid (by rw [hWa]; exact Box.putO HB.out (by omega) ⟨sid, ⟨soa, solen, socap, sol⟩, sia, sn, scap, sms, slife, swant⟩)
  have HB2n : Hid (Box WA1 (w.heap.size + 1) 39 #[.int .i64 bid, .slice boa bolen bocap, .slice bia bn bcap, .int .i64 blife, .int .i64 bwant]) := Lib.hid (by rw [hWa]; exact Box.putO HB2.out (by omega) ⟨sid, ⟨soa, solen, socap, sol⟩, sia, sn, scap, sms, slife, swant⟩)
  have HZBn : Hid (Box WA1 w3.heap.size 39 #[.int .i64 zid, .slice zoa zolen zocap, .slice zia zn zcap, .int .i64 zlife, .int .i64 zwant]) := Lib.hid (by rw [hWa]; exact Box.putO HZB.out (by omega) ⟨sid, ⟨soa, solen, socap, sol⟩, sia, sn, scap, sms, slife, swant⟩)
  have HyBn : Hid (Box WA1 Y 39 #[.int .i64 vid, .slice voa volen vocap, .slice via vn vcap, .int .i64 vlife, .int .i64 vwant]) := Lib.hid (by rw [hWa]; exact Box.putO HyB.out (by omega) ⟨sid, ⟨soa, solen, socap, sol⟩, sia, sn, scap, sms, slife, swant⟩)
  rw [← hWa]
  clear hWa HxB HuO HK HKZ HB HB2 HZB HyB
  clear p0 p1 p2 p3 p4 pl pf
  clear x0 x1 x2 x3 x4 xl xf
  have HxB := HxBn
  clear HxBn
  have HuO := HuOn
  clear HuOn
  have HK := HKn
  clear HKn
  have HKZ := HKZn
  clear HKZn
  have HB := HBn
  clear HBn
  have HB2 := HB2n
  clear HB2n
  have HZB := HZBn
  clear HZBn
  have HyB := HyBn
  clear HyBn
  have p0 := HB.out.cell 0 _ rfl
  have p1 := HB.out.cell 1 _ rfl
  have p2 := HB.out.cell 2 _ rfl
  have p3 := HB.out.cell 3 _ rfl
  have p4 := HB.out.cell 4 _ rfl
  have pl := HB.out.lt
  have pf := HB.out.frozen
  have y0 := HyB.out.cell 0 _ rfl
  have y1 := HyB.out.cell 1 _ rfl
  have y2 := HyB.out.cell 2 _ rfl
  have y3 := HyB.out.cell 3 _ rfl
  have y4 := HyB.out.cell 4 _ rfl
  have yl := HyB.out.lt
  have yf := HyB.out.frozen
  go_wp2_with fail
  (with_reducible refine (HRBE.out _ (by exact HC.out.keeps HK.out)).mono ?_)
  rintro e wB1 ⟨⟨tid, ⟨toa, tolen, tocap, tol⟩, tia, tn, tcap, tms, tlife, twant⟩, he, hp, ho, hk1⟩
  have he2 : e = .returned (.tuple #[.agg #[.int .i64 tid, .slice toa tolen tocap, .slice tia tn tcap, .int .i64 tlife, .int .i64 twant], .int .i64 E3]) := he
  clear he
  subst he2
  have HvP := Lib.hid hp
  have hYw := HyB.out.lt
  have HvO : Hid (RCni.Own ⟨tid, ⟨toa, tolen, tocap, tol⟩, tia, tn, tcap, tms, tlife, twant⟩ wB1 (Y + 1)) := Lib.hid (ho.mono (by omega))
  replace HK := Lib.hid (HK.out.trans hk1)
  replace HKZ := Lib.hid (HKZ.out.trans hk1)
  replace HB := Lib.hid (HB.out.keeps hk1)
  replace HB2 := Lib.hid (HB2.out.keeps hk1)
  replace HZB := Lib.hid (HZB.out.keeps hk1)
  replace HxB := Lib.hid (HxB.out.keeps hk1)
  replace HyB := Lib.hid (HyB.out.keeps hk1)
  replace HuO := Lib.hid (HuO.out.keeps hk1)
  clear hk1 hp ho HRBE hYw
  clear p0 p1 p2 p3 p4 pl pf
  clear y0 y1 y2 y3 y4 yl yf
  have p0 := HB.out.cell 0 _ rfl
  have p1 := HB.out.cell 1 _ rfl
  have p2 := HB.out.cell 2 _ rfl
  have p3 := HB.out.cell 3 _ rfl
  have p4 := HB.out.cell 4 _ rfl
  have pl := HB.out.lt
  have pf := HB.out.frozen
  have y0 := HyB.out.cell 0 _ rfl
  have y1 := HyB.out.cell 1 _ rfl
  have y2 := HyB.out.cell 2 _ rfl
  have y3 := HyB.out.cell 3 _ rfl
  have y4 := HyB.out.cell 4 _ rfl
  have yl := HyB.out.lt
  have yf := HyB.out.frozen
  go_upto_region 14 with fail
  obtain ⟨WB1, hWb⟩ : ∃ W, W = (((((wB1.setCell ⟨Y, 0, none⟩ (.int .i64 tid)).setCell ⟨Y, 1, none⟩ (.slice toa tolen tocap)).setCell ⟨Y, 2, none⟩ (.slice tia tn tcap)).setCell ⟨Y, 3, none⟩ (.int .i64 tlife)).setCell ⟨Y, 4, none⟩ (.int .i64 twant)) := ⟨_, rfl⟩
  have HyBn : Hid (Box WB1 Y 39 #[.int .i64 tid, .slice toa tolen tocap, .slice tia tn tcap, .int .i64 tlife, .int .i64 twant]) := Lib.hid (by rw [hWb]; exact Box.putC (x := ⟨vid, ⟨voa, volen, vocap, vol⟩, via, vn, vcap, vms, vlife, vwant⟩) HyB.out ⟨tid, ⟨toa, tolen, tocap, tol⟩, tia, tn, tcap, tms, tlife, twant⟩)
  have HuIn : Hid (RCni.In ⟨sid, ⟨soa, solen, socap, sol⟩, sia, sn, scap, sms, slife, swant⟩ WB1) := Lib.hid (by rw [hWb]; exact (HuO.out.putC (C := Y) (by omega) ⟨tid, ⟨toa, tolen, tocap, tol⟩, tia, tn, tcap, tms, tlife, twant⟩).isIn)
  have HvIn : Hid (RCni.In ⟨tid, ⟨toa, tolen, tocap, tol⟩, tia, tn, tcap, tms, tlife, twant⟩ WB1) := Lib.hid (by rw [hWb]; exact (HvO.out.putC (C := Y) (by omega) ⟨tid, ⟨toa, tolen, tocap, tol⟩, tia, tn, tcap, tms, tlife, twant⟩).isIn)
  have HKn : Hid (Keeps w WB1) := Lib.hid (by rw [hWb]; exact HK.out.putC (C := Y) (by omega) ⟨tid, ⟨toa, tolen, tocap, tol⟩, tia, tn, tcap, tms, tlife, twant⟩)
  have HKZn : Hid (Keeps w3 WB1) := Lib.hid (by rw [hWb]; exact HKZ.out.putC (C := Y) (by omega) ⟨tid, ⟨toa, tolen, tocap, tol⟩, tia, tn, tcap, tms, tlife, twant⟩)
  have HBn : Hid (Box WB1 w.heap.size 39 #[.int .i64 aid, .slice aoa aolen aocap, .slice aia an acap, .int .i64 alife, .int .i64 awant]) := Lib.hid (by rw [hWb]; exact Box.putO HB.out (by omega) ⟨tid, ⟨toa, tolen, tocap, tol⟩, tia, tn, tcap, tms, tlife, twant⟩)
  have HB2n : Hid (Box WB1 (w.heap.size + 1) 39 #[.int .i64 bid, .slice boa bolen bocap, .slice bia bn bcap, .int .i64 blife, .int .i64 bwant]) := Lib.hid (by rw [hWb]; exact Box.putO HB2.out (by omega) ⟨tid, ⟨toa, tolen, tocap, tol⟩, tia, tn, tcap, tms, tlife, twant⟩)
  have HZBn : Hid (Box WB1 w3.heap.size 39 #[.int .i64 zid, .slice zoa zolen zocap, .slice zia zn zcap, .int .i64 zlife, .int .i64 zwant]) := Lib.hid (by rw [hWb]; exact Box.putO HZB.out (by omega) ⟨tid, ⟨toa, tolen, tocap, tol⟩, tia, tn, tcap, tms, tlife, twant⟩)
  have HxBn : Hid (Box WB1 X 39 #[.int .i64 sid, .slice soa solen socap, .slice sia sn scap, .int .i64 slife, .int .i64 swant]) := Lib.hid (by rw [hWb]; exact Box.putO HxB.out (by omega) ⟨tid, ⟨toa, tolen, tocap, tol⟩, tia, tn, tcap, tms, tlife, twant⟩)
  rw [← hWb]
  clear hWb HxB HuO HvO HK HKZ HB HB2 HZB HyB
  clear p0 p1 p2 p3 p4 pl pf
  clear y0 y1 y2 y3 y4 yl yf
  have HxB := HxBn
  clear HxBn
  have HK := HKn
  clear HKn
  have HKZ := HKZn
  clear HKZn
  have HB := HBn
  clear HBn
  have HB2 := HB2n
  clear HB2n
  have HZB := HZBn
  clear HZBn
  have HyB := HyBn
  clear HyBn
  have HuI := HuIn
  clear HuIn
  have HvI := HvIn
  clear HvIn
  have HSM : Hid (sameC (RCni.p ⟨sid, ⟨soa, solen, socap, sol⟩, sia, sn, scap, sms, slife, swant⟩) (RCni.p ⟨tid, ⟨toa, tolen, tocap, tol⟩, tia, tn, tcap, tms, tlife, twant⟩) = true) := Lib.hid (by rw [HuP.out, HvP.out]; exact sameC_self _)
  have x0 := HxB.out.cell 0 _ rfl
  have x1 := HxB.out.cell 1 _ rfl
  have x2 := HxB.out.cell 2 _ rfl
  have x3 := HxB.out.cell 3 _ rfl
  have x4 := HxB.out.cell 4 _ rfl
  have xl := HxB.out.lt
  have xf := HxB.out.frozen
  have y0 := HyB.out.cell 0 _ rfl
  have y1 := HyB.out.cell 1 _ rfl
  have y2 := HyB.out.cell 2 _ rfl
  have y3 := HyB.out.cell 3 _ rfl
  have y4 := HyB.out.cell 4 _ rfl
  have yl := HyB.out.lt
  have yf := HyB.out.frozen
  go_wp2_with fail
  (with_reducible refine (rsame12_any ⟨sid, ⟨soa, solen, socap, sol⟩, sia, sn, scap, sms, slife, swant⟩ ⟨tid, ⟨toa, tolen, tocap, tol⟩, tia, tn, tcap, tms, tlife, twant⟩ _ (by exact HuI.out) (by exact HvI.out)).mono ?_)
  rw [HSM.out]
  rintro e wC1 ⟨rfl, hk1⟩
  replace HK := Lib.hid (HK.out.trans hk1)
  replace HKZ := Lib.hid (HKZ.out.trans hk1)
  replace HB := Lib.hid (HB.out.keeps hk1)
  replace HB2 := Lib.hid (HB2.out.keeps hk1)
  replace HZB := Lib.hid (HZB.out.keeps hk1)
  replace HxB := Lib.hid (HxB.out.keeps hk1)
  replace HyB := Lib.hid (HyB.out.keeps hk1)
  clear hk1 HSM HuI HvI HuP HvP
  clear x0 x1 x2 x3 x4 xl xf
  clear y0 y1 y2 y3 y4 yl yf
  have p0 := HB.out.cell 0 _ rfl
  have p1 := HB.out.cell 1 _ rfl
  have p2 := HB.out.cell 2 _ rfl
  have p3 := HB.out.cell 3 _ rfl
  have p4 := HB.out.cell 4 _ rfl
  have pl := HB.out.lt
  have pf := HB.out.frozen
  have x0 := HxB.out.cell 0 _ rfl
  have x1 := HxB.out.cell 1 _ rfl
  have x2 := HxB.out.cell 2 _ rfl
  have x3 := HxB.out.cell 3 _ rfl
  have x4 := HxB.out.cell 4 _ rfl
  have xl := HxB.out.lt
  have xf := HxB.out.frozen
  go_wp2_with fail
  (with_reducible refine (HAS.out _ (by exact HC.out.keeps HK.out)).mono ?_)
  rintro e wA2 ⟨⟨mid, ⟨moa, molen, mocap, mol⟩, mia, mn, mcap, mms, mlife, mwant⟩, he, hp, ho, hk1⟩
  have he2 : e = .returned (.tuple #[.agg #[.int .i64 mid, .slice moa molen mocap, .slice mia mn mcap, .int .i64 mlife, .int .i64 mwant], .int .i64 E4]) := he
  clear he
  subst he2
  have HuP := Lib.hid hp
  have hYw := HyB.out.lt
  have HuO : Hid (RCni.Own ⟨mid, ⟨moa, molen, mocap, mol⟩, mia, mn, mcap, mms, mlife, mwant⟩ wA2 (Y + 1)) := Lib.hid (ho.mono (by omega))
  replace HK := Lib.hid (HK.out.trans hk1)
  replace HKZ := Lib.hid (HKZ.out.trans hk1)
  replace HB := Lib.hid (HB.out.keeps hk1)
  replace HB2 := Lib.hid (HB2.out.keeps hk1)
  replace HZB := Lib.hid (HZB.out.keeps hk1)
  replace HxB := Lib.hid (HxB.out.keeps hk1)
  replace HyB := Lib.hid (HyB.out.keeps hk1)
  clear hk1 hp ho HAS hYw
  clear p0 p1 p2 p3 p4 pl pf
  clear x0 x1 x2 x3 x4 xl xf
  have p0 := HB.out.cell 0 _ rfl
  have p1 := HB.out.cell 1 _ rfl
  have p2 := HB.out.cell 2 _ rfl
  have p3 := HB.out.cell 3 _ rfl
  have p4 := HB.out.cell 4 _ rfl
  have pl := HB.out.lt
  have pf := HB.out.frozen
  have x0 := HxB.out.cell 0 _ rfl
  have x1 := HxB.out.cell 1 _ rfl
  have x2 := HxB.out.cell 2 _ rfl
  have x3 := HxB.out.cell 3 _ rfl
  have x4 := HxB.out.cell 4 _ rfl
  have xl := HxB.out.lt
  have xf := HxB.out.frozen
  go_upto_region 17 with fail
  obtain ⟨WA2, hWa⟩ : ∃ W, W = (((((wA2.setCell ⟨X, 0, none⟩ (.int .i64 mid)).setCell ⟨X, 1, none⟩ (.slice moa molen mocap)).setCell ⟨X, 2, none⟩ (.slice mia mn mcap)).setCell ⟨X, 3, none⟩ (.int .i64 mlife)).setCell ⟨X, 4, none⟩ (.int .i64 mwant)) := ⟨_, rfl⟩
  have HxBn : Hid (Box WA2 X 39 #[.int .i64 mid, .slice moa molen mocap, .slice mia mn mcap, .int .i64 mlife, .int .i64 mwant]) := Lib.hid (by rw [hWa]; exact Box.putC (x := ⟨sid, ⟨soa, solen, socap, sol⟩, sia, sn, scap, sms, slife, swant⟩) HxB.out ⟨mid, ⟨moa, molen, mocap, mol⟩, mia, mn, mcap, mms, mlife, mwant⟩)
  have HuOn : Hid (RCni.Own ⟨mid, ⟨moa, molen, mocap, mol⟩, mia, mn, mcap, mms, mlife, mwant⟩ WA2 (Y + 1)) := Lib.hid (by rw [hWa]; exact HuO.out.putC (C := X) (by omega) ⟨mid, ⟨moa, molen, mocap, mol⟩, mia, mn, mcap, mms, mlife, mwant⟩)
  have HKn : Hid (Keeps w WA2) := Lib.hid (by rw [hWa]; exact HK.out.putC (C := X) (by omega) ⟨mid, ⟨moa, molen, mocap, mol⟩, mia, mn, mcap, mms, mlife, mwant⟩)
  have HKZn : Hid (Keeps w3 WA2) := Lib.hid (by rw [hWa]; exact HKZ.out.putC (C := X) (by omega) ⟨mid, ⟨moa, molen, mocap, mol⟩, mia, mn, mcap, mms, mlife, mwant⟩)
  have HBn : Hid (Box WA2 w.heap.size 39 #[.int .i64 aid, .slice aoa aolen aocap, .slice aia an acap, .int .i64 alife, .int .i64 awant]) := Lib.hid (by rw [hWa]; exact Box.putO HB.out (by omega) ⟨mid, ⟨moa, molen, mocap, mol⟩, mia, mn, mcap, mms, mlife, mwant⟩)
  have HB2n : Hid (Box WA2 (w.heap.size + 1) 39 #[.int .i64 bid, .slice boa bolen bocap, .slice bia bn bcap, .int .i64 blife, .int .i64 bwant]) := Lib.hid (by rw [hWa]; exact Box.putO HB2.out (by omega) ⟨mid, ⟨moa, molen, mocap, mol⟩, mia, mn, mcap, mms, mlife, mwant⟩)
  have HZBn : Hid (Box WA2 w3.heap.size 39 #[.int .i64 zid, .slice zoa zolen zocap, .slice zia zn zcap, .int .i64 zlife, .int .i64 zwant]) := Lib.hid (by rw [hWa]; exact Box.putO HZB.out (by omega) ⟨mid, ⟨moa, molen, mocap, mol⟩, mia, mn, mcap, mms, mlife, mwant⟩)
  have HyBn : Hid (Box WA2 Y 39 #[.int .i64 tid, .slice toa tolen tocap, .slice tia tn tcap, .int .i64 tlife, .int .i64 twant]) := Lib.hid (by rw [hWa]; exact Box.putO HyB.out (by omega) ⟨mid, ⟨moa, molen, mocap, mol⟩, mia, mn, mcap, mms, mlife, mwant⟩)
  rw [← hWa]
  clear hWa HxB HuO HK HKZ HB HB2 HZB HyB
  clear p0 p1 p2 p3 p4 pl pf
  clear x0 x1 x2 x3 x4 xl xf
  have HxB := HxBn
  clear HxBn
  have HuO := HuOn
  clear HuOn
  have HK := HKn
  clear HKn
  have HKZ := HKZn
  clear HKZn
  have HB := HBn
  clear HBn
  have HB2 := HB2n
  clear HB2n
  have HZB := HZBn
  clear HZBn
  have HyB := HyBn
  clear HyBn
  have p0 := HB.out.cell 0 _ rfl
  have p1 := HB.out.cell 1 _ rfl
  have p2 := HB.out.cell 2 _ rfl
  have p3 := HB.out.cell 3 _ rfl
  have p4 := HB.out.cell 4 _ rfl
  have pl := HB.out.lt
  have pf := HB.out.frozen
  have y0 := HyB.out.cell 0 _ rfl
  have y1 := HyB.out.cell 1 _ rfl
  have y2 := HyB.out.cell 2 _ rfl
  have y3 := HyB.out.cell 3 _ rfl
  have y4 := HyB.out.cell 4 _ rfl
  have yl := HyB.out.lt
  have yf := HyB.out.frozen
  go_wp2_with fail
  (with_reducible refine (HRAS.out _ (by exact HC.out.keeps HK.out)).mono ?_)
  rintro e wB2 ⟨⟨nid, ⟨noa, nolen, nocap, nol⟩, nia, nn, ncap, nms, nlife, nwant⟩, he, hp, ho, hk1⟩
  have he2 : e = .returned (.tuple #[.agg #[.int .i64 nid, .slice noa nolen nocap, .slice nia nn ncap, .int .i64 nlife, .int .i64 nwant], .int .i64 E4]) := he
  clear he
  subst he2
  have HvP := Lib.hid hp
  have hYw := HyB.out.lt
  have HvO : Hid (RCni.Own ⟨nid, ⟨noa, nolen, nocap, nol⟩, nia, nn, ncap, nms, nlife, nwant⟩ wB2 (Y + 1)) := Lib.hid (ho.mono (by omega))
  replace HK := Lib.hid (HK.out.trans hk1)
  replace HKZ := Lib.hid (HKZ.out.trans hk1)
  replace HB := Lib.hid (HB.out.keeps hk1)
  replace HB2 := Lib.hid (HB2.out.keeps hk1)
  replace HZB := Lib.hid (HZB.out.keeps hk1)
  replace HxB := Lib.hid (HxB.out.keeps hk1)
  replace HyB := Lib.hid (HyB.out.keeps hk1)
  replace HuO := Lib.hid (HuO.out.keeps hk1)
  clear hk1 hp ho HRAS hYw
  clear p0 p1 p2 p3 p4 pl pf
  clear y0 y1 y2 y3 y4 yl yf
  have p0 := HB.out.cell 0 _ rfl
  have p1 := HB.out.cell 1 _ rfl
  have p2 := HB.out.cell 2 _ rfl
  have p3 := HB.out.cell 3 _ rfl
  have p4 := HB.out.cell 4 _ rfl
  have pl := HB.out.lt
  have pf := HB.out.frozen
  have y0 := HyB.out.cell 0 _ rfl
  have y1 := HyB.out.cell 1 _ rfl
  have y2 := HyB.out.cell 2 _ rfl
  have y3 := HyB.out.cell 3 _ rfl
  have y4 := HyB.out.cell 4 _ rfl
  have yl := HyB.out.lt
  have yf := HyB.out.frozen
  go_upto_region 18 with fail
  obtain ⟨WB2, hWb⟩ : ∃ W, W = (((((wB2.setCell ⟨Y, 0, none⟩ (.int .i64 nid)).setCell ⟨Y, 1, none⟩ (.slice noa nolen nocap)).setCell ⟨Y, 2, none⟩ (.slice nia nn ncap)).setCell ⟨Y, 3, none⟩ (.int .i64 nlife)).setCell ⟨Y, 4, none⟩ (.int .i64 nwant)) := ⟨_, rfl⟩
  have HyBn : Hid (Box WB2 Y 39 #[.int .i64 nid, .slice noa nolen nocap, .slice nia nn ncap, .int .i64 nlife, .int .i64 nwant]) := Lib.hid (by rw [hWb]; exact Box.putC (x := ⟨tid, ⟨toa, tolen, tocap, tol⟩, tia, tn, tcap, tms, tlife, twant⟩) HyB.out ⟨nid, ⟨noa, nolen, nocap, nol⟩, nia, nn, ncap, nms, nlife, nwant⟩)
  have HuIn : Hid (RCni.In ⟨mid, ⟨moa, molen, mocap, mol⟩, mia, mn, mcap, mms, mlife, mwant⟩ WB2) := Lib.hid (by rw [hWb]; exact (HuO.out.putC (C := Y) (by omega) ⟨nid, ⟨noa, nolen, nocap, nol⟩, nia, nn, ncap, nms, nlife, nwant⟩).isIn)
  have HvIn : Hid (RCni.In ⟨nid, ⟨noa, nolen, nocap, nol⟩, nia, nn, ncap, nms, nlife, nwant⟩ WB2) := Lib.hid (by rw [hWb]; exact (HvO.out.putC (C := Y) (by omega) ⟨nid, ⟨noa, nolen, nocap, nol⟩, nia, nn, ncap, nms, nlife, nwant⟩).isIn)
  have HKn : Hid (Keeps w WB2) := Lib.hid (by rw [hWb]; exact HK.out.putC (C := Y) (by omega) ⟨nid, ⟨noa, nolen, nocap, nol⟩, nia, nn, ncap, nms, nlife, nwant⟩)
  have HKZn : Hid (Keeps w3 WB2) := Lib.hid (by rw [hWb]; exact HKZ.out.putC (C := Y) (by omega) ⟨nid, ⟨noa, nolen, nocap, nol⟩, nia, nn, ncap, nms, nlife, nwant⟩)
  have HBn : Hid (Box WB2 w.heap.size 39 #[.int .i64 aid, .slice aoa aolen aocap, .slice aia an acap, .int .i64 alife, .int .i64 awant]) := Lib.hid (by rw [hWb]; exact Box.putO HB.out (by omega) ⟨nid, ⟨noa, nolen, nocap, nol⟩, nia, nn, ncap, nms, nlife, nwant⟩)
  have HB2n : Hid (Box WB2 (w.heap.size + 1) 39 #[.int .i64 bid, .slice boa bolen bocap, .slice bia bn bcap, .int .i64 blife, .int .i64 bwant]) := Lib.hid (by rw [hWb]; exact Box.putO HB2.out (by omega) ⟨nid, ⟨noa, nolen, nocap, nol⟩, nia, nn, ncap, nms, nlife, nwant⟩)
  have HZBn : Hid (Box WB2 w3.heap.size 39 #[.int .i64 zid, .slice zoa zolen zocap, .slice zia zn zcap, .int .i64 zlife, .int .i64 zwant]) := Lib.hid (by rw [hWb]; exact Box.putO HZB.out (by omega) ⟨nid, ⟨noa, nolen, nocap, nol⟩, nia, nn, ncap, nms, nlife, nwant⟩)
  have HxBn : Hid (Box WB2 X 39 #[.int .i64 mid, .slice moa molen mocap, .slice mia mn mcap, .int .i64 mlife, .int .i64 mwant]) := Lib.hid (by rw [hWb]; exact Box.putO HxB.out (by omega) ⟨nid, ⟨noa, nolen, nocap, nol⟩, nia, nn, ncap, nms, nlife, nwant⟩)
  rw [← hWb]
  clear hWb HxB HuO HvO HK HKZ HB HB2 HZB HyB
  clear p0 p1 p2 p3 p4 pl pf
  clear y0 y1 y2 y3 y4 yl yf
  have HxB := HxBn
  clear HxBn
  have HK := HKn
  clear HKn
  have HKZ := HKZn
  clear HKZn
  have HB := HBn
  clear HBn
  have HB2 := HB2n
  clear HB2n
  have HZB := HZBn
  clear HZBn
  have HyB := HyBn
  clear HyBn
  have HuI := HuIn
  clear HuIn
  have HvI := HvIn
  clear HvIn
  have HSM : Hid (sameC (RCni.p ⟨mid, ⟨moa, molen, mocap, mol⟩, mia, mn, mcap, mms, mlife, mwant⟩) (RCni.p ⟨nid, ⟨noa, nolen, nocap, nol⟩, nia, nn, ncap, nms, nlife, nwant⟩) = true) := Lib.hid (by rw [HuP.out, HvP.out]; exact sameC_self _)
  have x0 := HxB.out.cell 0 _ rfl
  have x1 := HxB.out.cell 1 _ rfl
  have x2 := HxB.out.cell 2 _ rfl
  have x3 := HxB.out.cell 3 _ rfl
  have x4 := HxB.out.cell 4 _ rfl
  have xl := HxB.out.lt
  have xf := HxB.out.frozen
  have y0 := HyB.out.cell 0 _ rfl
  have y1 := HyB.out.cell 1 _ rfl
  have y2 := HyB.out.cell 2 _ rfl
  have y3 := HyB.out.cell 3 _ rfl
  have y4 := HyB.out.cell 4 _ rfl
  have yl := HyB.out.lt
  have yf := HyB.out.frozen
  go_wp2_with fail
  (with_reducible refine (rsame12_any ⟨mid, ⟨moa, molen, mocap, mol⟩, mia, mn, mcap, mms, mlife, mwant⟩ ⟨nid, ⟨noa, nolen, nocap, nol⟩, nia, nn, ncap, nms, nlife, nwant⟩ _ (by exact HuI.out) (by exact HvI.out)).mono ?_)
  rw [HSM.out]
  rintro e wC2 ⟨rfl, hk1⟩
  replace HK := Lib.hid (HK.out.trans hk1)
  replace HKZ := Lib.hid (HKZ.out.trans hk1)
  replace HB := Lib.hid (HB.out.keeps hk1)
  replace HB2 := Lib.hid (HB2.out.keeps hk1)
  replace HZB := Lib.hid (HZB.out.keeps hk1)
  replace HxB := Lib.hid (HxB.out.keeps hk1)
  replace HyB := Lib.hid (HyB.out.keeps hk1)
  clear hk1 HSM HuI HvI HuP HvP
  clear x0 x1 x2 x3 x4 xl xf
  clear y0 y1 y2 y3 y4 yl yf
  have HSM : Hid (sameC (RCni.p ⟨aid, ⟨aoa, aolen, aocap, aol⟩, aia, an, acap, ams, alife, awant⟩) (RCni.p ⟨zid, ⟨zoa, zolen, zocap, zol⟩, zia, zn, zcap, zms, zlife, zwant⟩) = true) := Lib.hid (by rw [← HPC.out]; exact HZP.out)
  have p0 := HB.out.cell 0 _ rfl
  have p1 := HB.out.cell 1 _ rfl
  have p2 := HB.out.cell 2 _ rfl
  have p3 := HB.out.cell 3 _ rfl
  have p4 := HB.out.cell 4 _ rfl
  have pl := HB.out.lt
  have pf := HB.out.frozen
  have z0 := HZB.out.cell 0 _ rfl
  have z1 := HZB.out.cell 1 _ rfl
  have z2 := HZB.out.cell 2 _ rfl
  have z3 := HZB.out.cell 3 _ rfl
  have z4 := HZB.out.cell 4 _ rfl
  have zl := HZB.out.lt
  have zf := HZB.out.frozen
  go_wp2_with fail
  (with_reducible refine (rsame12_any ⟨aid, ⟨aoa, aolen, aocap, aol⟩, aia, an, acap, ams, alife, awant⟩ ⟨zid, ⟨zoa, zolen, zocap, zol⟩, zia, zn, zcap, zms, zlife, zwant⟩ _ (by exact HC.out.keeps HK.out) (by exact HZI.out.keeps HKZ.out)).mono ?_)
  rw [HSM.out]
  rintro e wE ⟨rfl, hk1⟩
  replace HK := Lib.hid (HK.out.trans hk1)
  go_wp2_with fail
  go_ret
  exact ⟨rfl, HK.out⟩
end Go.Proofs.Ytcophhdlcjemeaa
