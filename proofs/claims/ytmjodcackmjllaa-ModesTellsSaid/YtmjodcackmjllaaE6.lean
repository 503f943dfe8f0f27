/- The walk of ModesTells. -/
import Derived.Test.YtmjodcackmjllaaC20
import Derived.Test.YtmjodcackmjllaaD8
import Derived.Test.YtmjodcackmjllaaE3
import Derived.Test.YtmjodcackmjllaaE5
import Derived.Test.YtmjodcackmjllaaLater
import Derived.BigQuiet
import Derived.Deep.RegionHeld3
import Derived.Deep.DeepCutAuto
namespace Go.Proofs.Ytmjodcackmjllaa
open Go.RowKit Go.Shelf
set_option linter.unusedVariables false
set_option linter.unusedSimpArgs false
attribute [local go_sem ↓ high] eqCS
theorem Ints.cut {w : World} {a : Option Addr} {n cap : Nat} {zs : List Int} (h : Ints w (.slice a n cap) zs) (m : Nat) (hm : m ≤ zs.length) : Ints w (.slice a m cap) (zs.take m) := by
  obtain ⟨a', cap', he, h1, h2, h3⟩ := h.shape
  simp only [Value.slice.injEq] at he
  obtain ⟨rfl, rfl, rfl⟩ := he
  have hl : (zs.take m).length = m := by rw [List.length_take]; omega
  refine ⟨a, cap, by rw [hl], by omega, h2, by rw [List.length_map, hl], fun i hi => ?_⟩
  rw [hl] at hi
  obtain ⟨b, off, hab, hc⟩ := h3.2 i (by omega)
  refine ⟨b, off, hab, hc.trans ?_⟩
  simp [List.getElem?_take, hi]
set_option maxRecDepth 100000 in
set_option maxHeartbeats 8000000 in
theorem modesTells_any (m : RMedl) (c : CS) (k q ch : Int) (most : Nat) (w : World) (hm : m.In w) (hmo : most < 256) : Calls Try.prog 10 #[m.val, c.val, .int .i64 k, .int .i64 q, .int .i64 ch, .int .u8 most] w fun e w' => e = .returned (.bool true) ∧ Keeps w w' := by
  have HM := Lib.hid hm
  clear hm
  have HA1 := Lib.hid (askX_any m c k)
  have HA2 := Lib.hid (raskX_any m c k)
  have HT1 := Lib.hid (takeX_any m c k)
  have HT2 := Lib.hid (rtakeX_any m c k)
  have HR1 := Lib.hid (reachX_any m k q ch)
  have HR2 := Lib.hid (rreachX_any m k q ch)
  have HY1 := Lib.hid (mayX_any m c k)
  have HY2 := Lib.hid (rmayX_any m c k)
  have HRN := Lib.hid (rnexts_any m c)
  have HNF := Lib.hid (nextsf_any m c)
  have HTO : Hid (∀ (w : World) (hm : m.In w) (most : Nat) (av : Int) (hav : av = most) (hmm : most ≤ 100000), Calls Try.prog 17 #[.func (.func 57) #[] #[.pointer (some ⟨w.heap.size, 0, none⟩), .pointer (some ⟨w.heap.size + 1, 0, none⟩)], .int .i64 av] ((w.alloc (.cells #[.int .i64 m.nodes, .int .i64 m.slot, .int .i64 m.gap, .int .i64 m.window, .int .i64 m.drift, .int .i64 m.delay, m.cv, .slice m.ma m.mn m.mc] 25)).alloc (.cells #[.int .i64 c.t, .int .i64 c.p, .int .i64 c.m, .int .i64 c.x, .int .i64 c.b] 27)) fun e w' =>
      ∃ v, e = .returned v ∧ Ints w' v (((nextsP m c).take most).map fun j : Nat => (j : Int)) ∧ Keeps w w') := Lib.hid (nexts_told m c)
  have HTD : Hid (∀ (w : World) (hm : m.In w) (most : Nat) (av : Int) (hav : av = most) (hmm : most ≤ 100000), Calls Try.prog 17 #[.func (.func 57) #[] #[.pointer (some ⟨w.heap.size, 0, none⟩), .pointer (some ⟨w.heap.size + 1, 0, none⟩)], .int .i64 av] (((w.alloc (.cells #[.int .i64 m.nodes, .int .i64 m.slot, .int .i64 m.gap, .int .i64 m.window, .int .i64 m.drift, .int .i64 m.delay, m.cv, .slice m.ma m.mn m.mc] 25)).alloc (.cells #[.int .i64 c.t, .int .i64 c.p, .int .i64 c.m, .int .i64 c.x, .int .i64 c.b] 27)).drew) fun e w' =>
      ∃ v, e = .returned v ∧ Ints w' v (((nextsP m c).take most).map fun j : Nat => (j : Int)) ∧ Keeps w.drew w') := Lib.hid (fun w hm most av hav hmm => nexts_told m c w.drew (hm.keeps (Keeps.refl w).drew) most av hav hmm)
  have HL4 := nextsP_le4 m c
  obtain ⟨FL, hFL⟩ : ∃ FL, FL = nextsP m c := ⟨_, rfl⟩
  obtain ⟨AR, hAR⟩ : ∃ AR, AR = askR m c k := ⟨_, rfl⟩
  obtain ⟨TR, hTR⟩ : ∃ TR, TR = takeR m c k := ⟨_, rfl⟩
  obtain ⟨RR, hRR⟩ : ∃ RR, RR = reachR m k q ch := ⟨_, rfl⟩
  obtain ⟨MY, hMY⟩ : ∃ MY, MY = mayR m c k := ⟨_, rfl⟩
  rw [← hFL] at HRN HTO HTD HL4
  rw [← hAR] at HA1 HA2
  rw [← hTR] at HT1 HT2
  rw [← hRR] at HR1 HR2
  rw [← hMY] at HY1 HY2
  clear hFL hAR hTR hRR hMY
  obtain ⟨a1, e1⟩ := AR
  obtain ⟨⟨tt, tp, tm, tx, tb⟩, e2⟩ := TR
  obtain ⟨r1, e3⟩ := RR
  obtain ⟨ca, cc, hcv, hc1, hc2, hc3⟩ := HM.out.c.shape
  clear hc3
  have HX := Lib.hid HM.out.m
  obtain ⟨no, sl, ga, wi, dr, de, cv, cs, ma, mn, mc, xs⟩ := m
  obtain ⟨ct, cp, cm, cx, cb⟩ := c
  simp only at hcv hc1 HX HA1 HA2 HT1 HT2 HR1 HR2 HNF HTO HTD
  have hlen := HX.out.len
  have hcap := HX.out.hcap
  have hmax := HX.out.hmax
  subst hlen hcv
  have HK := Lib.hid (((Keeps.refl w).alloc (.cells #[.int .i64 no, .int .i64 sl, .int .i64 ga, .int .i64 wi, .int .i64 dr, .int .i64 de, .slice ca cs.length cc, .slice ma xs.length mc] 25)).alloc (.cells #[.int .i64 ct, .int .i64 cp, .int .i64 cm, .int .i64 cx, .int .i64 cb] 27))
  have HB := Lib.hid ((Box.new w 25 #[.int .i64 no, .int .i64 sl, .int .i64 ga, .int .i64 wi, .int .i64 dr, .int .i64 de, .slice ca cs.length cc, .slice ma xs.length mc]).next (.cells #[.int .i64 ct, .int .i64 cp, .int .i64 cm, .int .i64 cx, .int .i64 cb] 27))
  have hz := Box.new (w.alloc (.cells #[.int .i64 no, .int .i64 sl, .int .i64 ga, .int .i64 wi, .int .i64 dr, .int .i64 de, .slice ca cs.length cc, .slice ma xs.length mc] 25)) 27 #[.int .i64 ct, .int .i64 cp, .int .i64 cm, .int .i64 cx, .int .i64 cb]
  rw [World.size_alloc] at hz
  have HA := Lib.hid hz
  clear hz
  show Calls Try.prog 10 #[.agg #[.int .i64 no, .int .i64 sl, .int .i64 ga, .int .i64 wi, .int .i64 dr, .int .i64 de, .slice ca cs.length cc, .slice ma xs.length mc], .agg #[.int .i64 ct, .int .i64 cp, .int .i64 cm, .int .i64 cx, .int .i64 cb], .int .i64 k, .int .i64 q, .int .i64 ch, .int .u8 most] w _
  go_enter Try.func10, Try.ntmps10
  have m0 := HB.out.cell 0 _ rfl
  have m1 := HB.out.cell 1 _ rfl
  have m2 := HB.out.cell 2 _ rfl
  have m3 := HB.out.cell 3 _ rfl
  have m4 := HB.out.cell 4 _ rfl
  have m5 := HB.out.cell 5 _ rfl
  have m6 := HB.out.cell 6 _ rfl
  have m7 := HB.out.cell 7 _ rfl
  have ml := HB.out.lt
  have c0 := HA.out.cell 0 _ rfl
  have c1 := HA.out.cell 1 _ rfl
  have c2 := HA.out.cell 2 _ rfl
  have c3 := HA.out.cell 3 _ rfl
  have c4 := HA.out.cell 4 _ rfl
  have cl := HA.out.lt
  go_wp2_with fail
  (with_reducible refine (HA1.out _ (by exact HM.out.keeps HK.out)).mono ?_)
  rintro e w1 ⟨rfl, hk1⟩
  replace HB := Lib.hid (HB.out.keeps hk1)
  replace HA := Lib.hid (HA.out.keeps hk1)
  replace HK := Lib.hid (HK.out.trans hk1)
  clear hk1 m0 m1 m2 m3 m4 m5 m6 m7 ml c0 c1 c2 c3 c4 cl
  have m0 := HB.out.cell 0 _ rfl
  have m1 := HB.out.cell 1 _ rfl
  have m2 := HB.out.cell 2 _ rfl
  have m3 := HB.out.cell 3 _ rfl
  have m4 := HB.out.cell 4 _ rfl
  have m5 := HB.out.cell 5 _ rfl
  have m6 := HB.out.cell 6 _ rfl
  have m7 := HB.out.cell 7 _ rfl
  have ml := HB.out.lt
  have c0 := HA.out.cell 0 _ rfl
  have c1 := HA.out.cell 1 _ rfl
  have c2 := HA.out.cell 2 _ rfl
  have c3 := HA.out.cell 3 _ rfl
  have c4 := HA.out.cell 4 _ rfl
  have cl := HA.out.lt
  go_wp2_with fail
  (with_reducible refine (HA2.out _ (by exact HM.out.keeps HK.out)).mono ?_)
  rintro e w2 ⟨rfl, hk1⟩
  replace HB := Lib.hid (HB.out.keeps hk1)
  replace HA := Lib.hid (HA.out.keeps hk1)
  replace HK := Lib.hid (HK.out.trans hk1)
  clear hk1 m0 m1 m2 m3 m4 m5 m6 m7 ml c0 c1 c2 c3 c4 cl
  have m0 := HB.out.cell 0 _ rfl
  have m1 := HB.out.cell 1 _ rfl
  have m2 := HB.out.cell 2 _ rfl
  have m3 := HB.out.cell 3 _ rfl
  have m4 := HB.out.cell 4 _ rfl
  have m5 := HB.out.cell 5 _ rfl
  have m6 := HB.out.cell 6 _ rfl
  have m7 := HB.out.cell 7 _ rfl
  have ml := HB.out.lt
  have c0 := HA.out.cell 0 _ rfl
  have c1 := HA.out.cell 1 _ rfl
  have c2 := HA.out.cell 2 _ rfl
  have c3 := HA.out.cell 3 _ rfl
  have c4 := HA.out.cell 4 _ rfl
  have cl := HA.out.lt
  go_wp2_with fail
  (with_reducible refine (HT1.out _ (by exact HM.out.keeps HK.out)).mono ?_)
  rintro e w3 ⟨rfl, hk1⟩
  replace HB := Lib.hid (HB.out.keeps hk1)
  replace HA := Lib.hid (HA.out.keeps hk1)
  replace HK := Lib.hid (HK.out.trans hk1)
  have hq1 : w.heap.size + 1 < w3.heap.size := HA.out.lt
  have HXB := Lib.hid (Box.new w3 27 #[.int .i64 tt, .int .i64 tp, .int .i64 tm, .int .i64 tx, .int .i64 tb])
  replace HB := Lib.hid (HB.out.next (.cells #[.int .i64 tt, .int .i64 tp, .int .i64 tm, .int .i64 tx, .int .i64 tb] 27))
  replace HA := Lib.hid (HA.out.next (.cells #[.int .i64 tt, .int .i64 tp, .int .i64 tm, .int .i64 tx, .int .i64 tb] 27))
  replace HK := Lib.hid (HK.out.alloc (.cells #[.int .i64 tt, .int .i64 tp, .int .i64 tm, .int .i64 tx, .int .i64 tb] 27))
  clear hk1 m0 m1 m2 m3 m4 m5 m6 m7 ml c0 c1 c2 c3 c4 cl
  have m0 := HB.out.cell 0 _ rfl
  have m1 := HB.out.cell 1 _ rfl
  have m2 := HB.out.cell 2 _ rfl
  have m3 := HB.out.cell 3 _ rfl
  have m4 := HB.out.cell 4 _ rfl
  have m5 := HB.out.cell 5 _ rfl
  have m6 := HB.out.cell 6 _ rfl
  have m7 := HB.out.cell 7 _ rfl
  have ml := HB.out.lt
  have c0 := HA.out.cell 0 _ rfl
  have c1 := HA.out.cell 1 _ rfl
  have c2 := HA.out.cell 2 _ rfl
  have c3 := HA.out.cell 3 _ rfl
  have c4 := HA.out.cell 4 _ rfl
  have cl := HA.out.lt
  go_wp2_with fail
  (with_reducible refine (HT2.out _ (by exact HM.out.keeps HK.out)).mono ?_)
  rintro e w4 ⟨rfl, hk1⟩
  replace HB := Lib.hid (HB.out.keeps hk1)
  replace HA := Lib.hid (HA.out.keeps hk1)
  replace HXB := Lib.hid (HXB.out.keeps hk1)
  replace HK := Lib.hid (HK.out.trans hk1)
  have HYB := Lib.hid (Box.new w4 27 #[.int .i64 tt, .int .i64 tp, .int .i64 tm, .int .i64 tx, .int .i64 tb])
  replace HB := Lib.hid (HB.out.next (.cells #[.int .i64 tt, .int .i64 tp, .int .i64 tm, .int .i64 tx, .int .i64 tb] 27))
  replace HA := Lib.hid (HA.out.next (.cells #[.int .i64 tt, .int .i64 tp, .int .i64 tm, .int .i64 tx, .int .i64 tb] 27))
  replace HXB := Lib.hid (HXB.out.next (.cells #[.int .i64 tt, .int .i64 tp, .int .i64 tm, .int .i64 tx, .int .i64 tb] 27))
  replace HK := Lib.hid (HK.out.alloc (.cells #[.int .i64 tt, .int .i64 tp, .int .i64 tm, .int .i64 tx, .int .i64 tb] 27))
  clear hk1 m0 m1 m2 m3 m4 m5 m6 m7 ml c0 c1 c2 c3 c4 cl
  have m0 := HB.out.cell 0 _ rfl
  have m1 := HB.out.cell 1 _ rfl
  have m2 := HB.out.cell 2 _ rfl
  have m3 := HB.out.cell 3 _ rfl
  have m4 := HB.out.cell 4 _ rfl
  have m5 := HB.out.cell 5 _ rfl
  have m6 := HB.out.cell 6 _ rfl
  have m7 := HB.out.cell 7 _ rfl
  have ml := HB.out.lt
  have c0 := HA.out.cell 0 _ rfl
  have c1 := HA.out.cell 1 _ rfl
  have c2 := HA.out.cell 2 _ rfl
  have c3 := HA.out.cell 3 _ rfl
  have c4 := HA.out.cell 4 _ rfl
  have cl := HA.out.lt
  go_wp2_with fail
  (with_reducible refine (HR1.out _ (by exact HM.out.keeps HK.out)).mono ?_)
  rintro e w5 ⟨rfl, hk1⟩
  replace HB := Lib.hid (HB.out.keeps hk1)
  replace HA := Lib.hid (HA.out.keeps hk1)
  replace HXB := Lib.hid (HXB.out.keeps hk1)
  replace HYB := Lib.hid (HYB.out.keeps hk1)
  replace HK := Lib.hid (HK.out.trans hk1)
  clear hk1 m0 m1 m2 m3 m4 m5 m6 m7 ml c0 c1 c2 c3 c4 cl
  have m0 := HB.out.cell 0 _ rfl
  have m1 := HB.out.cell 1 _ rfl
  have m2 := HB.out.cell 2 _ rfl
  have m3 := HB.out.cell 3 _ rfl
  have m4 := HB.out.cell 4 _ rfl
  have m5 := HB.out.cell 5 _ rfl
  have m6 := HB.out.cell 6 _ rfl
  have m7 := HB.out.cell 7 _ rfl
  have ml := HB.out.lt
  have c0 := HA.out.cell 0 _ rfl
  have c1 := HA.out.cell 1 _ rfl
  have c2 := HA.out.cell 2 _ rfl
  have c3 := HA.out.cell 3 _ rfl
  have c4 := HA.out.cell 4 _ rfl
  have cl := HA.out.lt
  go_wp2_with fail
  (with_reducible refine (HR2.out _ (by exact HM.out.keeps HK.out)).mono ?_)
  rintro e w6 ⟨rfl, hk1⟩
  replace HB := Lib.hid (HB.out.keeps hk1)
  replace HA := Lib.hid (HA.out.keeps hk1)
  replace HXB := Lib.hid (HXB.out.keeps hk1)
  replace HYB := Lib.hid (HYB.out.keeps hk1)
  replace HK := Lib.hid (HK.out.trans hk1)
  clear hk1 m0 m1 m2 m3 m4 m5 m6 m7 ml c0 c1 c2 c3 c4 cl
  have m0 := HB.out.cell 0 _ rfl
  have m1 := HB.out.cell 1 _ rfl
  have m2 := HB.out.cell 2 _ rfl
  have m3 := HB.out.cell 3 _ rfl
  have m4 := HB.out.cell 4 _ rfl
  have m5 := HB.out.cell 5 _ rfl
  have m6 := HB.out.cell 6 _ rfl
  have m7 := HB.out.cell 7 _ rfl
  have ml := HB.out.lt
  have c0 := HA.out.cell 0 _ rfl
  have c1 := HA.out.cell 1 _ rfl
  have c2 := HA.out.cell 2 _ rfl
  have c3 := HA.out.cell 3 _ rfl
  have c4 := HA.out.cell 4 _ rfl
  have cl := HA.out.lt
  go_wp2_with fail
  clear m0 m1 m2 m3 m4 m5 m6 m7 ml c0 c1 c2 c3 c4 cl
  have HMI := Lib.hid (HM.out.keeps HK.out)
  have hss := csSame_self ⟨tt, tp, tm, tx, tb⟩
  have lg0 := HB.out.later 0 _ rfl
  have lg1 := HB.out.later 1 _ rfl
  have lg2 := HB.out.later 2 _ rfl
  have lg3 := HB.out.later 3 _ rfl
  have lg4 := HB.out.later 4 _ rfl
  have lg5 := HB.out.later 5 _ rfl
  have lg6 := HB.out.later 6 _ rfl
  have lg7 := HB.out.later 7 _ rfl
  have lh0 := HA.out.later 0 _ rfl
  have lh1 := HA.out.later 1 _ rfl
  have lh2 := HA.out.later 2 _ rfl
  have lh3 := HA.out.later 3 _ rfl
  have lh4 := HA.out.later 4 _ rfl
  have li0 := HXB.out.later 0 _ rfl
  have li1 := HXB.out.later 1 _ rfl
  have li2 := HXB.out.later 2 _ rfl
  have li3 := HXB.out.later 3 _ rfl
  have li4 := HXB.out.later 4 _ rfl
  have lj0 := HYB.out.later 0 _ rfl
  have lj1 := HYB.out.later 1 _ rfl
  have lj2 := HYB.out.later 2 _ rfl
  have lj3 := HYB.out.later 3 _ rfl
  have lj4 := HYB.out.later 4 _ rfl
  refine wp_region_later (by kernel_rfl) (by kernel_rfl) ?_
  repeat (go_big_quiet_step (first
    | (go_at_call 15; with_reducible exact Later.calls _ (begun10_any _))
    | (go_at_call 24; with_reducible exact Later.calls _ (HY1.out _ (HMI.out.keeps (Later.keeps _))))
    | (go_at_call 38; with_reducible exact Later.calls _ (HY2.out _ (HMI.out.keeps (Later.keeps _))))))
  refine wpQuiet_nil ?_
  rintro _ ⟨kk, rfl⟩
  have hk1 := kk.keeps
  obtain ⟨WL, hWL⟩ : ∃ WL, WL = kk.w := ⟨_, rfl⟩
  rw [← hWL] at hk1 ⊢
  replace HB := Lib.hid (HB.out.keeps hk1)
  replace HA := Lib.hid (HA.out.keeps hk1)
  replace HK := Lib.hid (HK.out.trans hk1)
  clear hWL hk1 HMI HXB HYB hss HY1 HY2 lg0 lg1 lg2 lg3 lg4 lg5 lg6 lg7 lh0 lh1 lh2 lh3 lh4 li0 li1 li2 li3 li4 lj0 lj1 lj2 lj3 lj4
  have m0 := HB.out.cell 0 _ rfl
  have m1 := HB.out.cell 1 _ rfl
  have m2 := HB.out.cell 2 _ rfl
  have m3 := HB.out.cell 3 _ rfl
  have m4 := HB.out.cell 4 _ rfl
  have m5 := HB.out.cell 5 _ rfl
  have m6 := HB.out.cell 6 _ rfl
  have m7 := HB.out.cell 7 _ rfl
  have ml := HB.out.lt
  have c0 := HA.out.cell 0 _ rfl
  have c1 := HA.out.cell 1 _ rfl
  have c2 := HA.out.cell 2 _ rfl
  have c3 := HA.out.cell 3 _ rfl
  have c4 := HA.out.cell 4 _ rfl
  have cl := HA.out.lt
  by_cases h20 : xs.length ≤ 20
  case neg =>
    have d1 : decide (20 < xs.length) = true := decide_eq_true (by omega)
    have d2 : decide ((20 : Int) < (xs.length : Int)) = true := by simp; omega
    go_wp2_with fail
    go_ret
    exact ⟨rfl, HK.out⟩
  have d1 : decide (20 < xs.length) = false := decide_eq_false (by omega)
  have d2 : decide ((20 : Int) < (xs.length : Int)) = false := by simp; omega
  go_wp2_with fail
  (with_reducible refine (HRN.out _ (by exact HM.out.keeps HK.out)).mono ?_)
  rintro e w11 ⟨lv, rfl, hlv, hk1⟩
  have HLV := Lib.hid hlv
  replace HB := Lib.hid (HB.out.keeps hk1)
  replace HA := Lib.hid (HA.out.keeps hk1)
  replace HK := Lib.hid (HK.out.trans hk1)
  clear hk1 hlv HRN m0 m1 m2 m3 m4 m5 m6 m7 ml c0 c1 c2 c3 c4 cl
  obtain ⟨W, hW⟩ : ∃ W, W = w11 := ⟨_, rfl⟩
  rw [← hW] at HK HB HA HLV ⊢
  clear hW
  have HMI := Lib.hid (HM.out.keeps HK.out)
  have fhb0 : W.cell? ⟨w.heap.size, 0, none⟩ = some (Value.int .i64 no) := HB.out.cell 0 _ rfl
  have fhb1 : W.cell? ⟨w.heap.size, 1, none⟩ = some (Value.int .i64 sl) := HB.out.cell 1 _ rfl
  have fhb2 : W.cell? ⟨w.heap.size, 2, none⟩ = some (Value.int .i64 ga) := HB.out.cell 2 _ rfl
  have fhb3 : W.cell? ⟨w.heap.size, 3, none⟩ = some (Value.int .i64 wi) := HB.out.cell 3 _ rfl
  have fhb4 : W.cell? ⟨w.heap.size, 4, none⟩ = some (Value.int .i64 dr) := HB.out.cell 4 _ rfl
  have fhb5 : W.cell? ⟨w.heap.size, 5, none⟩ = some (Value.int .i64 de) := HB.out.cell 5 _ rfl
  have fhb6 : W.cell? ⟨w.heap.size, 6, none⟩ = some (Value.slice ca cs.length cc) := HB.out.cell 6 _ rfl
  have fhb7 : W.cell? ⟨w.heap.size, 7, none⟩ = some (Value.slice ma xs.length mc) := HB.out.cell 7 _ rfl
  have fha0 : W.cell? ⟨w.heap.size + 1, 0, none⟩ = some (Value.int .i64 ct) := HA.out.cell 0 _ rfl
  have fha1 : W.cell? ⟨w.heap.size + 1, 1, none⟩ = some (Value.int .i64 cp) := HA.out.cell 1 _ rfl
  have fha2 : W.cell? ⟨w.heap.size + 1, 2, none⟩ = some (Value.int .i64 cm) := HA.out.cell 2 _ rfl
  have fha3 : W.cell? ⟨w.heap.size + 1, 3, none⟩ = some (Value.int .i64 cx) := HA.out.cell 3 _ rfl
  have fha4 : W.cell? ⟨w.heap.size + 1, 4, none⟩ = some (Value.int .i64 cb) := HA.out.cell 4 _ rfl
  have HKN := Lib.hid (Keeps.refl W)
  have hmin : min (FL.length : Int) (most : Int) = ((min FL.length most : Nat) : Int) := by omega
  have HLI : Hid (Ints W lv (FL.map fun j : Nat => (j : Int))) := Lib.hid (Own.ints (by rw [List.map_map]; exact HLV.out))
  obtain ⟨la, lc, hlv, hl1, hl2, hl3⟩ := HLI.out.shape
  rw [List.length_map] at hlv hl1
  subst hlv
  obtain ⟨p, hp⟩ : ∃ p, p = min FL.length most := ⟨_, rfl⟩
  have hqM : p ≤ FL.length := by omega
  have HLC : Hid (Ints W (.slice la p lc) ((FL.take most).map fun j : Nat => (j : Int))) := Lib.hid (by
    have h := HLI.out.cut p (by rw [List.length_map]; exact hqM)
    rw [← List.map_take] at h
    rwa [show FL.take p = FL.take most by rw [hp]; exact (List.take_eq_take_min.trans (by rw [Nat.min_comm])).symm] at h)
  have hmin2 : min (FL.length : Int) (most : Int) = (p : Int) := by omega
  have HW : Hid (IntKind.i64.wrap (most : Int) = (most : Int)) := Lib.hid (by simp [IntKind.wrap, IntKind.bits, IntKind.signed]; omega)
  have hmin3 : min (FL.length : Int) (IntKind.i64.wrap (most : Int)) = (p : Int) := by rw [HW.out]; exact hmin2
  have hmin4 : (if IntKind.i64.wrap (most : Int) < (FL.length : Int) then IntKind.i64.wrap (most : Int) else (FL.length : Int)) = (p : Int) := by rw [HW.out]; split <;> omega
  have hmin5 : (if (most : Int) < (FL.length : Int) then (most : Int) else (FL.length : Int)) = (p : Int) := by split <;> omega
  have hmin6 : (if most < FL.length then (most : Int) else (FL.length : Int)) = (p : Int) := by split <;> omega
  have hq0 : (0 : Int) ≤ (p : Int) := by omega
  have hq1' : (p : Int) ≤ (FL.length : Int) := by omega
  have hq2 : (p : Int) ≤ (lc : Int) := by omega
  have hq3 : p ≤ lc := by omega
  have hww : IntKind.i64.wrap (most : Int) = (most : Int) := HW.out
  have hF1 : FL.length ≤ 99 := by omega
  clear HLV hl3 hp hmin HL4 d1 d2
  go_wp2_with fail
  go_region_held3 (fun w' => w'.cell? ⟨w.heap.size, 0, none⟩ = some (Value.int .i64 no) ∧ w'.cell? ⟨w.heap.size, 1, none⟩ = some (Value.int .i64 sl) ∧ w'.cell? ⟨w.heap.size, 2, none⟩ = some (Value.int .i64 ga) ∧ w'.cell? ⟨w.heap.size, 3, none⟩ = some (Value.int .i64 wi) ∧ w'.cell? ⟨w.heap.size, 4, none⟩ = some (Value.int .i64 dr) ∧ w'.cell? ⟨w.heap.size, 5, none⟩ = some (Value.int .i64 de) ∧ w'.cell? ⟨w.heap.size, 6, none⟩ = some (Value.slice ca cs.length cc) ∧ w'.cell? ⟨w.heap.size, 7, none⟩ = some (Value.slice ma xs.length mc) ∧ w'.cell? ⟨w.heap.size + 1, 0, none⟩ = some (Value.int .i64 ct) ∧ w'.cell? ⟨w.heap.size + 1, 1, none⟩ = some (Value.int .i64 cp) ∧ w'.cell? ⟨w.heap.size + 1, 2, none⟩ = some (Value.int .i64 cm) ∧ w'.cell? ⟨w.heap.size + 1, 3, none⟩ = some (Value.int .i64 cx) ∧ w'.cell? ⟨w.heap.size + 1, 4, none⟩ = some (Value.int .i64 cb))
    ((refine ⟨Keeps.later (a := W) ?_ fhb0, Keeps.later (a := W) ?_ fhb1, Keeps.later (a := W) ?_ fhb2, Keeps.later (a := W) ?_ fhb3, Keeps.later (a := W) ?_ fhb4, Keeps.later (a := W) ?_ fhb5, Keeps.later (a := W) ?_ fhb6, Keeps.later (a := W) ?_ fhb7, Keeps.later (a := W) ?_ fha0, Keeps.later (a := W) ?_ fha1, Keeps.later (a := W) ?_ fha2, Keeps.later (a := W) ?_ fha3, Keeps.later (a := W) ?_ fha4⟩ <;> repeat (first | with_reducible exact HKN.out | with_reducible refine Keeps.alloc ?_ _ | with_reducible refine Keeps.drew ?_)))
    (first | (go_at_call 18; with_reducible refine (HNF.out _).mono ?_; rintro e u ⟨rfl, rfl⟩) | (go_at_call 17; with_reducible refine (HTO.out _ (HMI.out.keeps ?_) 99 99 rfl (by omega)).mono ?_; (repeat (first | with_reducible exact HKN.out | with_reducible refine Keeps.alloc ?_ _ | with_reducible refine Keeps.drew ?_)); rintro e u ⟨v1, rfl, hv1, hk⟩; rw [List.take_of_length_le hF1] at hv1; have HV1 := Lib.hid hv1; clear hv1; have HKM := Lib.hid (Keeps.trans (show Keeps W _ by repeat (first | with_reducible exact HKN.out | with_reducible refine Keeps.alloc ?_ _ | with_reducible refine Keeps.drew ?_)) hk); clear hk HKN; have HKN := HKM; clear HKM) | (go_at_call 17; with_reducible refine (HTD.out _ (HMI.out.keeps ?_) 99 99 rfl (by omega)).mono ?_; (repeat (first | with_reducible exact HKN.out | with_reducible refine Keeps.alloc ?_ _ | with_reducible refine Keeps.drew ?_)); rintro e u ⟨v1, rfl, hv1, hk⟩; rw [List.take_of_length_le hF1] at hv1; have HV1 := Lib.hid hv1; clear hv1; have HKM := Lib.hid (Keeps.trans (show Keeps W _ by repeat (first | with_reducible exact HKN.out | with_reducible refine Keeps.alloc ?_ _ | with_reducible refine Keeps.drew ?_)) hk); clear hk HKN; have HKN := HKM; clear HKM) | (go_at_call 17; with_reducible refine (HTO.out _ (HMI.out.keeps ?_) most _ HW.out (by omega)).mono ?_; (repeat (first | with_reducible exact HKN.out | with_reducible refine Keeps.alloc ?_ _ | with_reducible refine Keeps.drew ?_)); rintro e u ⟨v1, rfl, hv1, hk⟩; skip; have HV1 := Lib.hid hv1; clear hv1; have HKM := Lib.hid (Keeps.trans (show Keeps W _ by repeat (first | with_reducible exact HKN.out | with_reducible refine Keeps.alloc ?_ _ | with_reducible refine Keeps.drew ?_)) hk); clear hk HKN; have HKN := HKM; clear HKM) | (go_at_call 17; with_reducible refine (HTO.out _ (HMI.out.keeps ?_) most _ rfl (by omega)).mono ?_; (repeat (first | with_reducible exact HKN.out | with_reducible refine Keeps.alloc ?_ _ | with_reducible refine Keeps.drew ?_)); rintro e u ⟨v1, rfl, hv1, hk⟩; skip; have HV1 := Lib.hid hv1; clear hv1; have HKM := Lib.hid (Keeps.trans (show Keeps W _ by repeat (first | with_reducible exact HKN.out | with_reducible refine Keeps.alloc ?_ _ | with_reducible refine Keeps.drew ?_)) hk); clear hk HKN; have HKN := HKM; clear HKM) | (go_at_call 40; with_reducible refine (eqInts_yes v1 _ (FL.map fun j : Nat => (j : Int)) _ HV1.out (HLI.out.keeps ?_)).mono ?_; (repeat (first | with_reducible exact HKN.out | with_reducible refine Keeps.alloc ?_ _ | with_reducible refine Keeps.drew ?_)); rintro e u ⟨rfl, hk⟩; have HKM := Lib.hid (Keeps.trans (show Keeps W _ by repeat (first | with_reducible exact HKN.out | with_reducible refine Keeps.alloc ?_ _ | with_reducible refine Keeps.drew ?_)) hk); clear hk HKN HV1; have HKN := HKM; clear HKM) | (go_at_call 40; with_reducible refine (eqInts_yes v1 _ ((FL.take most).map fun j : Nat => (j : Int)) _ HV1.out (HLC.out.keeps ?_)).mono ?_; (repeat (first | with_reducible exact HKN.out | with_reducible refine Keeps.alloc ?_ _ | with_reducible refine Keeps.drew ?_)); rintro e u ⟨rfl, hk⟩; have HKM := Lib.hid (Keeps.trans (show Keeps W _ by repeat (first | with_reducible exact HKN.out | with_reducible refine Keeps.alloc ?_ _ | with_reducible refine Keeps.drew ?_)) hk); clear hk HKN HV1; have HKN := HKM; clear HKM))
  all_goals (first | (go_ret; exact ⟨rfl, HK.out.trans HKN.out⟩) | (go_wp2_with fail; go_ret; exact ⟨rfl, HK.out.trans HKN.out⟩))
end Go.Proofs.Ytmjodcackmjllaa
