/- The walks of the reference of layer 7, 15: Same. -/
import Derived.Test.YtmjodcackmjllaaH1
import Derived.Deep.RegionHeld3
import Derived.Deep.DeepCutAuto
import Derived.BigRegion
namespace Go.Proofs.Ytmjodcackmjllaa
open Go.RowKit
set_option linter.unusedVariables false
set_option linter.unusedSimpArgs false
theorem box_two (w : World) (t : Nat) (c d : Array Value) : Box ((w.alloc (.cells c t)).alloc (.cells d t)).drew w.heap.size t c ∧ Box ((w.alloc (.cells c t)).alloc (.cells d t)).drew (w.heap.size + 1) t d ∧ Keeps w ((w.alloc (.cells c t)).alloc (.cells d t)).drew := by
  refine ⟨((Box.new w t c).next _).keeps (Keeps.refl _).drew, ?_, (((Keeps.refl w).alloc _).alloc _).drew⟩
  have h := (Box.new (w.alloc (.cells c t)) t d).keeps (Keeps.refl _).drew
  rw [World.size_alloc] at h
  exact h
set_option maxRecDepth 100000 in
set_option maxHeartbeats 4000000 in
theorem rsame7_any (x y : RMedl) (w : World) (hx : x.In w) (hy : y.In w) : Calls Try.prog 33 #[x.val, y.val] w fun e w' => e = .returned (.bool (sameL x y)) ∧ Keeps w w' := by
  have HX := Lib.hid hx
  have HY := Lib.hid hy
  clear hx hy
  have HI := Lib.hid (sameL_iff x y)
  obtain ⟨R, hR⟩ : ∃ R, R = sameL x y := ⟨_, rfl⟩
  rw [← hR] at HI ⊢
  clear hR
  obtain ⟨no, sl, ga, wi, dr, de, cv, cs, ma, mn, mc, xs⟩ := x
  obtain ⟨no2, sl2, ga2, wi2, dr2, de2, cv2, cs2, ma2, mn2, mc2, ys⟩ := y
  simp only at HI
  obtain ⟨ca, cc, hcv, -, -, -⟩ := id HX.out.c.shape
  obtain ⟨ca2, cc2, hcv2, -, -, -⟩ := id HY.out.c.shape
  simp only at hcv hcv2
  subst hcv hcv2
  have HC := Lib.hid HX.out.c
  have HM := Lib.hid HX.out.m
  have HC2 := Lib.hid HY.out.c
  have HM2 := Lib.hid HY.out.m
  clear HX HY
  simp only at HC HM HC2 HM2
  show Calls Try.prog 33 #[.agg #[.int .i64 no, .int .i64 sl, .int .i64 ga, .int .i64 wi, .int .i64 dr, .int .i64 de, .slice ca cs.length cc, .slice ma mn mc], .agg #[.int .i64 no2, .int .i64 sl2, .int .i64 ga2, .int .i64 wi2, .int .i64 dr2, .int .i64 de2, .slice ca2 cs2.length cc2, .slice ma2 mn2 mc2]] w _
  by_cases t0 : no = no2
  case neg =>
    have d0 : (no != no2) = true := by rw [bne_iff_ne]; exact t0
    have e0 : (no == no2) = false := by rw [beq_eq_false_iff_ne]; exact t0
    obtain rfl : R = false := Bool.eq_false_iff.2 (fun h => t0 (by replace h := HI.out.1 h; exact h.1))
    have HK := Lib.hid (((Keeps.refl w).alloc (.cells #[.int .i64 no, .int .i64 sl, .int .i64 ga, .int .i64 wi, .int .i64 dr, .int .i64 de, .slice ca cs.length cc, .slice ma mn mc] 25)).alloc (.cells #[.int .i64 no2, .int .i64 sl2, .int .i64 ga2, .int .i64 wi2, .int .i64 dr2, .int .i64 de2, .slice ca2 cs2.length cc2, .slice ma2 mn2 mc2] 25))
    go_enter Try.func33, Try.ntmps33
    go_wp2_with fail
    go_ret
    exact ⟨rfl, HK.out⟩
  have d0 : (no != no) = false := by simp
  have e0 : (no == no) = true := by simp
  subst t0
  by_cases t1 : sl = sl2
  case neg =>
    have d1 : (sl != sl2) = true := by rw [bne_iff_ne]; exact t1
    have e1 : (sl == sl2) = false := by rw [beq_eq_false_iff_ne]; exact t1
    obtain rfl : R = false := Bool.eq_false_iff.2 (fun h => t1 (by replace h := HI.out.1 h; exact h.2.1))
    have HK := Lib.hid (((Keeps.refl w).alloc (.cells #[.int .i64 no, .int .i64 sl, .int .i64 ga, .int .i64 wi, .int .i64 dr, .int .i64 de, .slice ca cs.length cc, .slice ma mn mc] 25)).alloc (.cells #[.int .i64 no, .int .i64 sl2, .int .i64 ga2, .int .i64 wi2, .int .i64 dr2, .int .i64 de2, .slice ca2 cs2.length cc2, .slice ma2 mn2 mc2] 25))
    go_enter Try.func33, Try.ntmps33
    go_wp2_with fail
    go_ret
    exact ⟨rfl, HK.out⟩
  have d1 : (sl != sl) = false := by simp
  have e1 : (sl == sl) = true := by simp
  subst t1
  by_cases t2 : ga = ga2
  case neg =>
    have d2 : (ga != ga2) = true := by rw [bne_iff_ne]; exact t2
    have e2 : (ga == ga2) = false := by rw [beq_eq_false_iff_ne]; exact t2
    obtain rfl : R = false := Bool.eq_false_iff.2 (fun h => t2 (by replace h := HI.out.1 h; exact h.2.2.1))
    have HK := Lib.hid (((Keeps.refl w).alloc (.cells #[.int .i64 no, .int .i64 sl, .int .i64 ga, .int .i64 wi, .int .i64 dr, .int .i64 de, .slice ca cs.length cc, .slice ma mn mc] 25)).alloc (.cells #[.int .i64 no, .int .i64 sl, .int .i64 ga2, .int .i64 wi2, .int .i64 dr2, .int .i64 de2, .slice ca2 cs2.length cc2, .slice ma2 mn2 mc2] 25))
    go_enter Try.func33, Try.ntmps33
    go_wp2_with fail
    go_ret
    exact ⟨rfl, HK.out⟩
  have d2 : (ga != ga) = false := by simp
  have e2 : (ga == ga) = true := by simp
  subst t2
  by_cases t3 : wi = wi2
  case neg =>
    have d3 : (wi != wi2) = true := by rw [bne_iff_ne]; exact t3
    have e3 : (wi == wi2) = false := by rw [beq_eq_false_iff_ne]; exact t3
    obtain rfl : R = false := Bool.eq_false_iff.2 (fun h => t3 (by replace h := HI.out.1 h; exact h.2.2.2.1))
    have HK := Lib.hid (((Keeps.refl w).alloc (.cells #[.int .i64 no, .int .i64 sl, .int .i64 ga, .int .i64 wi, .int .i64 dr, .int .i64 de, .slice ca cs.length cc, .slice ma mn mc] 25)).alloc (.cells #[.int .i64 no, .int .i64 sl, .int .i64 ga, .int .i64 wi2, .int .i64 dr2, .int .i64 de2, .slice ca2 cs2.length cc2, .slice ma2 mn2 mc2] 25))
    go_enter Try.func33, Try.ntmps33
    go_wp2_with fail
    go_ret
    exact ⟨rfl, HK.out⟩
  have d3 : (wi != wi) = false := by simp
  have e3 : (wi == wi) = true := by simp
  subst t3
  by_cases t4 : dr = dr2
  case neg =>
    have d4 : (dr != dr2) = true := by rw [bne_iff_ne]; exact t4
    have e4 : (dr == dr2) = false := by rw [beq_eq_false_iff_ne]; exact t4
    obtain rfl : R = false := Bool.eq_false_iff.2 (fun h => t4 (by replace h := HI.out.1 h; exact h.2.2.2.2.1))
    have HK := Lib.hid (((Keeps.refl w).alloc (.cells #[.int .i64 no, .int .i64 sl, .int .i64 ga, .int .i64 wi, .int .i64 dr, .int .i64 de, .slice ca cs.length cc, .slice ma mn mc] 25)).alloc (.cells #[.int .i64 no, .int .i64 sl, .int .i64 ga, .int .i64 wi, .int .i64 dr2, .int .i64 de2, .slice ca2 cs2.length cc2, .slice ma2 mn2 mc2] 25))
    go_enter Try.func33, Try.ntmps33
    go_wp2_with fail
    go_ret
    exact ⟨rfl, HK.out⟩
  have d4 : (dr != dr) = false := by simp
  have e4 : (dr == dr) = true := by simp
  subst t4
  by_cases t5 : de = de2
  case neg =>
    have d5 : (de != de2) = true := by rw [bne_iff_ne]; exact t5
    have e5 : (de == de2) = false := by rw [beq_eq_false_iff_ne]; exact t5
    obtain rfl : R = false := Bool.eq_false_iff.2 (fun h => t5 (by replace h := HI.out.1 h; exact h.2.2.2.2.2.1))
    have HK := Lib.hid (((Keeps.refl w).alloc (.cells #[.int .i64 no, .int .i64 sl, .int .i64 ga, .int .i64 wi, .int .i64 dr, .int .i64 de, .slice ca cs.length cc, .slice ma mn mc] 25)).alloc (.cells #[.int .i64 no, .int .i64 sl, .int .i64 ga, .int .i64 wi, .int .i64 dr, .int .i64 de2, .slice ca2 cs2.length cc2, .slice ma2 mn2 mc2] 25))
    go_enter Try.func33, Try.ntmps33
    go_wp2_with fail
    go_ret
    exact ⟨rfl, HK.out⟩
  have d5 : (de != de) = false := by simp
  have e5 : (de == de) = true := by simp
  subst t5
  have HK := Lib.hid (((Keeps.refl w).alloc (.cells #[.int .i64 no, .int .i64 sl, .int .i64 ga, .int .i64 wi, .int .i64 dr, .int .i64 de, .slice ca cs.length cc, .slice ma mn mc] 25)).alloc (.cells #[.int .i64 no, .int .i64 sl, .int .i64 ga, .int .i64 wi, .int .i64 dr, .int .i64 de, .slice ca2 cs2.length cc2, .slice ma2 mn2 mc2] 25))
  have HB := Lib.hid ((Box.new w 25 #[.int .i64 no, .int .i64 sl, .int .i64 ga, .int .i64 wi, .int .i64 dr, .int .i64 de, .slice ca cs.length cc, .slice ma mn mc]).next (.cells #[.int .i64 no, .int .i64 sl, .int .i64 ga, .int .i64 wi, .int .i64 dr, .int .i64 de, .slice ca2 cs2.length cc2, .slice ma2 mn2 mc2] 25))
  have hz := Box.new (w.alloc (.cells #[.int .i64 no, .int .i64 sl, .int .i64 ga, .int .i64 wi, .int .i64 dr, .int .i64 de, .slice ca cs.length cc, .slice ma mn mc] 25)) 25 #[.int .i64 no, .int .i64 sl, .int .i64 ga, .int .i64 wi, .int .i64 dr, .int .i64 de, .slice ca2 cs2.length cc2, .slice ma2 mn2 mc2]
  rw [World.size_alloc] at hz
  have HZ := Lib.hid hz
  clear hz
  go_enter Try.func33, Try.ntmps33
  go_wp2_with fail
  (with_reducible refine (sameTruths_any _ _ _ _ _ (by exact HC.out.keeps HK.out) (by exact HC2.out.keeps HK.out)).mono ?_)
  rintro e w1 ⟨rfl, hk1⟩
  replace HK := Lib.hid (HK.out.trans hk1)
  replace HB := Lib.hid (HB.out.keeps hk1)
  replace HZ := Lib.hid (HZ.out.keeps hk1)
  clear hk1
  have b0 := HB.out.cell 0 _ rfl
  have b1 := HB.out.cell 1 _ rfl
  have b2 := HB.out.cell 2 _ rfl
  have b3 := HB.out.cell 3 _ rfl
  have b4 := HB.out.cell 4 _ rfl
  have b5 := HB.out.cell 5 _ rfl
  have b6 := HB.out.cell 6 _ rfl
  have b7 := HB.out.cell 7 _ rfl
  have bl := HB.out.lt
  have z0 := HZ.out.cell 0 _ rfl
  have z1 := HZ.out.cell 1 _ rfl
  have z2 := HZ.out.cell 2 _ rfl
  have z3 := HZ.out.cell 3 _ rfl
  have z4 := HZ.out.cell 4 _ rfl
  have z5 := HZ.out.cell 5 _ rfl
  have z6 := HZ.out.cell 6 _ rfl
  have z7 := HZ.out.cell 7 _ rfl
  have zl := HZ.out.lt
  by_cases t6 : cs = cs2
  case neg =>
    rw [decide_eq_false t6]
    obtain rfl : R = false := Bool.eq_false_iff.2 (fun h => t6 (by replace h := HI.out.1 h; exact h.2.2.2.2.2.2.1))
    go_wp2_with fail
    go_ret
    exact ⟨rfl, HK.out⟩
  rw [decide_eq_true t6]
  have HT6 := Lib.hid t6
  clear t6
  have hxl := HM.out.len
  have hyl := HM2.out.len
  have hxc := HM.out.hcap
  have hyc := HM2.out.hcap
  have hxm := HM.out.hmax
  have hym := HM2.out.hmax
  by_cases t7 : mn = mn2
  case neg =>
    have d7 : ((mn : Int) != (mn2 : Int)) = true := by rw [bne_iff_ne]; omega
    have e7 : ((mn : Int) == (mn2 : Int)) = false := by rw [beq_eq_false_iff_ne]; omega
    have f7 : (mn == mn2) = false := by rw [beq_eq_false_iff_ne]; exact t7
    have g7 : (mn != mn2) = true := by rw [bne_iff_ne]; exact t7
    obtain rfl : R = false := Bool.eq_false_iff.2 (fun h => t7 (by
      replace h := HI.out.1 h
      have h8 := congrArg List.length h.2.2.2.2.2.2.2
      simp only [List.length_map] at h8
      omega))
    go_wp2_with fail
    go_ret
    exact ⟨rfl, HK.out⟩
  subst t7
  obtain ⟨n, hn⟩ : ∃ n, n = mn := ⟨_, rfl⟩
  subst hn
  have d7 : ((n : Int) != (n : Int)) = false := by simp
  have e7 : ((n : Int) == (n : Int)) = true := by simp
  have f7 : (n == n) = true := by simp
  have g7 : (n != n) = false := by simp
  have HXL := Lib.hid hxl
  have HYL := Lib.hid hyl
  clear hxl hyl
  have HBAD : Hid (∀ i (hi : i < xs.length) (hj : i < ys.length), sameX xs[i] ys[i] = false → R = false) := Lib.hid (fun i hi hj h => Bool.eq_false_iff.2 (fun hR => by
    replace h' := HI.out.1 hR
    exact sameXs_no xs ys i hi hj h h'.2.2.2.2.2.2.2))
  have HYES : Hid ((∀ i (hi : i < xs.length) (hj : i < ys.length), i < n → sameX xs[i] ys[i] = true) → R = true) := Lib.hid (fun h2 => HI.out.2 ⟨by trivial, by trivial, by trivial, by trivial, by trivial, by trivial, HT6.out, sameXs_yes xs ys (HXL.out.trans HYL.out.symm) (fun i hi hj hn => h2 i hi hj (HXL.out ▸ hn))⟩)
  clear HI
  go_wp2_with fail
  clear b0 b1 b2 b3 b4 b5 b6 b7 bl z0 z1 z2 z3 z4 z5 z6 z7 zl
  clear d0 d1 d2 d3 d4 d5 e0 e1 e2 e3 e4 e5
  go_loopw [5] (fun i wr => ∃ k : Nat, k ≤ n ∧ i = .int .i64 k ∧ Hid (∀ i (hi : i < xs.length) (hj : i < ys.length), i < k → sameX xs[i] ys[i] = true) ∧ Hid (Box wr w.heap.size 25 #[.int .i64 no, .int .i64 sl, .int .i64 ga, .int .i64 wi, .int .i64 dr, .int .i64 de, .slice ca cs.length cc, .slice ma n mc]) ∧ Hid (Box wr (w.heap.size + 1) 25 #[.int .i64 no, .int .i64 sl, .int .i64 ga, .int .i64 wi, .int .i64 dr, .int .i64 de, .slice ca2 cs2.length cc2, .slice ma2 n mc2]) ∧ Hid (Keeps w wr)) (fun i _ => n - (intOf i).toNat)
  case atStart => exact ⟨0, Nat.zero_le _, rfl, Lib.hid (fun i _ _ hi => absurd hi (by omega)), HB, HZ, HK⟩
  case round =>
    clear HB HZ HK
    obtain ⟨k, hk, rfl, HI, HB, HZ, HK⟩ := hrel
    have b0 := HB.out.cell 0 _ rfl
    have b1 := HB.out.cell 1 _ rfl
    have b2 := HB.out.cell 2 _ rfl
    have b3 := HB.out.cell 3 _ rfl
    have b4 := HB.out.cell 4 _ rfl
    have b5 := HB.out.cell 5 _ rfl
    have b6 := HB.out.cell 6 _ rfl
    have b7 := HB.out.cell 7 _ rfl
    have bl := HB.out.lt
    have z0 := HZ.out.cell 0 _ rfl
    have z1 := HZ.out.cell 1 _ rfl
    have z2 := HZ.out.cell 2 _ rfl
    have z3 := HZ.out.cell 3 _ rfl
    have z4 := HZ.out.cell 4 _ rfl
    have z5 := HZ.out.cell 5 _ rfl
    have z6 := HZ.out.cell 6 _ rfl
    have z7 := HZ.out.cell 7 _ rfl
    have zl := HZ.out.lt
    by_cases hlt : k < n
    · have hkx : k < xs.length := by rw [HXL.out]; exact hlt
      have hky : k < ys.length := by rw [HYL.out]; exact hlt
      obtain ⟨sb, so, rfl, hcell⟩ := HM.out.addr (show 0 < xs.length by omega)
      obtain ⟨tb, tf, rfl, hcell2⟩ := HM2.out.addr (show 0 < ys.length by omega)
      obtain ⟨hc0, hc1, hc2⟩ := hcell k hkx
      obtain ⟨hd0, hd1, hd2⟩ := hcell2 k hky
      replace hc0 := HK.out.later hc0
      replace hc1 := HK.out.later hc1
      replace hc2 := HK.out.later hc2
      replace hd0 := HK.out.later hd0
      replace hd1 := HK.out.later hd1
      replace hd2 := HK.out.later hd2
      have hsb : sb < wr.heap.size := World.block_lt_of_cell? _ _ hc0
      have htb : tb < wr.heap.size := World.block_lt_of_cell? _ _ hd0
      have HXI := Lib.hid ((HM.out.isIn _ (List.getElem_mem hkx)).keeps HK.out)
      have HYI := Lib.hid ((HM2.out.isIn _ (List.getElem_mem hky)).keeps HK.out)
      have HBK := Lib.hid (HBAD.out k hkx hky)
      have HYS : Hid (sameX xs[k] ys[k] = true → ∀ i (hi : i < xs.length) (hj : i < ys.length), i < k + 1 → sameX xs[i] ys[i] = true) := Lib.hid (fun h i hi hj hik => by
        by_cases e : i = k
        · subst e; exact h
        · exact HI.out i hi hj (by omega))
      obtain ⟨x, hx⟩ : ∃ x, x = xs[k] := ⟨_, rfl⟩
      obtain ⟨y, hy⟩ : ∃ y, y = ys[k] := ⟨_, rfl⟩
      rw [← hx] at hc0 hc1 hc2 HXI HBK HYS
      rw [← hy] at hd0 hd1 hd2 HYI HBK HYS
      clear hx hy HI hcell hcell2 hkx hky
      have HQ := Lib.hid (sameX_iff x y)
      obtain ⟨Q, hQ⟩ : ∃ Q, Q = sameX x y := ⟨_, rfl⟩
      rw [← hQ] at HQ HBK HYS
      clear hQ
      obtain ⟨dv, ev, nv, ds, es, ns⟩ := x
      obtain ⟨dv2, ev2, nv2, ds2, es2, ns2⟩ := y
      simp only at HQ
      obtain ⟨da, dc, hdv, -, -, -⟩ := id HXI.out.d.shape
      obtain ⟨ea, ec, hev, -, -, -⟩ := id HXI.out.e.shape
      obtain ⟨na, nc, hnv, -, -, -⟩ := id HXI.out.n.shape
      obtain ⟨da2, dc2, hdv2, -, -, -⟩ := id HYI.out.d.shape
      obtain ⟨ea2, ec2, hev2, -, -, -⟩ := id HYI.out.e.shape
      obtain ⟨na2, nc2, hnv2, -, -, -⟩ := id HYI.out.n.shape
      simp only at hdv hev hnv hdv2 hev2 hnv2
      subst hdv hev hnv hdv2 hev2 hnv2
      simp only at hc0 hc1 hc2 hd0 hd1 hd2
      have HD := Lib.hid HXI.out.d
      have HE := Lib.hid HXI.out.e
      have HN := Lib.hid HXI.out.n
      have HD2 := Lib.hid HYI.out.d
      have HE2 := Lib.hid HYI.out.e
      have HN2 := Lib.hid HYI.out.n
      clear HXI HYI
      simp only at HD HE HN HD2 HE2 HN2
      have HKN := Lib.hid (Keeps.refl wr)
      have hn1 : ¬ sb = wr.heap.size := by omega
      have hn2 : ¬ tb = wr.heap.size := by omega
      have hn3 : ¬ sb = wr.heap.size + 1 := by omega
      have hn4 : ¬ tb = wr.heap.size + 1 := by omega
      have hn5 : ¬ w.heap.size = wr.heap.size := by omega
      have hn6 : ¬ w.heap.size + 1 = wr.heap.size := by omega
      have hn7 : ¬ w.heap.size = wr.heap.size + 1 := by omega
      have hn8 : ¬ w.heap.size + 1 = wr.heap.size + 1 := by omega
      go_upto_region 6 with fail
      go_cut [6, 7] (fun v6 v7 wx => ∃ g h : Nat, v6 = .pointer (some ⟨g, 0, none⟩) ∧ v7 = .pointer (some ⟨h, 0, none⟩) ∧ Hid (Box wx g 71 #[.slice da ds.length dc, .slice ea es.length ec, .slice na ns.length nc]) ∧ Hid (Box wx h 71 #[.slice da2 ds2.length dc2, .slice ea2 es2.length ec2, .slice na2 ns2.length nc2]) ∧ Hid (Keeps wr wx))
      case first =>
        go_region
        all_goals (go_wp2_with fail; go_meet)
        · exact ⟨_, _, rfl, rfl, Lib.hid (box_two _ _ _ _).1, Lib.hid (box_two _ _ _ _).2.1, Lib.hid (box_two _ _ _ _).2.2⟩
        · exact ⟨_, _, rfl, rfl, Lib.hid (box_two _ _ _ _).2.1, Lib.hid (box_two _ _ _ _).1, Lib.hid (box_two _ _ _ _).2.2⟩
      case rest =>
        obtain ⟨g, h, rfl, rfl, HG, HH, HKC⟩ := hcut
        clear b0 b1 b2 b3 b4 b5 b6 b7 bl z0 z1 z2 z3 z4 z5 z6 z7 zl hc0 hc1 hc2 hd0 hd1 hd2
        replace HB := Lib.hid (HB.out.keeps HKC.out)
        replace HZ := Lib.hid (HZ.out.keeps HKC.out)
        replace HK := Lib.hid (HK.out.trans HKC.out)
        replace HD := Lib.hid (HD.out.keeps HKC.out)
        replace HD2 := Lib.hid (HD2.out.keeps HKC.out)
        replace HE := Lib.hid (HE.out.keeps HKC.out)
        replace HE2 := Lib.hid (HE2.out.keeps HKC.out)
        replace HN := Lib.hid (HN.out.keeps HKC.out)
        replace HN2 := Lib.hid (HN2.out.keeps HKC.out)
        clear HKC HKN
        have g0 := HG.out.cell 0 _ rfl
        have h0 := HH.out.cell 0 _ rfl
        have g1 := HG.out.cell 1 _ rfl
        have h1 := HH.out.cell 1 _ rfl
        have g2 := HG.out.cell 2 _ rfl
        have h2 := HH.out.cell 2 _ rfl
        have gl := HG.out.lt
        have hl := HH.out.lt
        go_wp2_with fail
        clear g0 g1 g2 gl h0 h1 h2 hl
        (with_reducible refine (sameInts_any _ _ _ _ _ (by exact HD.out) (by exact HD2.out)).mono ?_)
        rintro e w1 ⟨rfl, hk1⟩
        replace HB := Lib.hid (HB.out.keeps hk1)
        replace HZ := Lib.hid (HZ.out.keeps hk1)
        replace HD := Lib.hid (HD.out.keeps hk1)
        replace HE := Lib.hid (HE.out.keeps hk1)
        replace HN := Lib.hid (HN.out.keeps hk1)
        replace HD2 := Lib.hid (HD2.out.keeps hk1)
        replace HE2 := Lib.hid (HE2.out.keeps hk1)
        replace HN2 := Lib.hid (HN2.out.keeps hk1)
        replace HG := Lib.hid (HG.out.keeps hk1)
        replace HH := Lib.hid (HH.out.keeps hk1)
        replace HK := Lib.hid (HK.out.trans hk1)
        clear hk1
        have g0 := HG.out.cell 0 _ rfl
        have h0 := HH.out.cell 0 _ rfl
        have g1 := HG.out.cell 1 _ rfl
        have h1 := HH.out.cell 1 _ rfl
        have g2 := HG.out.cell 2 _ rfl
        have h2 := HH.out.cell 2 _ rfl
        have gl := HG.out.lt
        have hl := HH.out.lt
        by_cases q1 : ds = ds2
        case neg =>
          rw [decide_eq_false q1]
          obtain rfl : Q = false := Bool.eq_false_iff.2 (fun hq => q1 (HQ.out.1 hq).1)
          obtain rfl : R = false := HBK.out (by first | rfl | trivial)
          go_wp2_with fail
          go_ret
          exact ⟨rfl, HK.out⟩
        rw [decide_eq_true q1]
        have HQ1 := Lib.hid q1
        clear q1
        go_wp2_with fail
        clear g0 g1 g2 gl h0 h1 h2 hl
        (with_reducible refine (sameTruths_any _ _ _ _ _ (by exact HE.out) (by exact HE2.out)).mono ?_)
        rintro e w2 ⟨rfl, hk2⟩
        replace HB := Lib.hid (HB.out.keeps hk2)
        replace HZ := Lib.hid (HZ.out.keeps hk2)
        replace HD := Lib.hid (HD.out.keeps hk2)
        replace HE := Lib.hid (HE.out.keeps hk2)
        replace HN := Lib.hid (HN.out.keeps hk2)
        replace HD2 := Lib.hid (HD2.out.keeps hk2)
        replace HE2 := Lib.hid (HE2.out.keeps hk2)
        replace HN2 := Lib.hid (HN2.out.keeps hk2)
        replace HG := Lib.hid (HG.out.keeps hk2)
        replace HH := Lib.hid (HH.out.keeps hk2)
        replace HK := Lib.hid (HK.out.trans hk2)
        clear hk2
        have g0 := HG.out.cell 0 _ rfl
        have h0 := HH.out.cell 0 _ rfl
        have g1 := HG.out.cell 1 _ rfl
        have h1 := HH.out.cell 1 _ rfl
        have g2 := HG.out.cell 2 _ rfl
        have h2 := HH.out.cell 2 _ rfl
        have gl := HG.out.lt
        have hl := HH.out.lt
        by_cases q2 : es = es2
        case neg =>
          rw [decide_eq_false q2]
          obtain rfl : Q = false := Bool.eq_false_iff.2 (fun hq => q2 (HQ.out.1 hq).2.1)
          obtain rfl : R = false := HBK.out (by first | rfl | trivial)
          go_wp2_with fail
          go_ret
          exact ⟨rfl, HK.out⟩
        rw [decide_eq_true q2]
        have HQ2 := Lib.hid q2
        clear q2
        go_wp2_with fail
        clear g0 g1 g2 gl h0 h1 h2 hl
        (with_reducible refine (sameTruths_any _ _ _ _ _ (by exact HN.out) (by exact HN2.out)).mono ?_)
        rintro e w3 ⟨rfl, hk3⟩
        replace HB := Lib.hid (HB.out.keeps hk3)
        replace HZ := Lib.hid (HZ.out.keeps hk3)
        replace HD := Lib.hid (HD.out.keeps hk3)
        replace HE := Lib.hid (HE.out.keeps hk3)
        replace HN := Lib.hid (HN.out.keeps hk3)
        replace HD2 := Lib.hid (HD2.out.keeps hk3)
        replace HE2 := Lib.hid (HE2.out.keeps hk3)
        replace HN2 := Lib.hid (HN2.out.keeps hk3)
        replace HG := Lib.hid (HG.out.keeps hk3)
        replace HH := Lib.hid (HH.out.keeps hk3)
        replace HK := Lib.hid (HK.out.trans hk3)
        clear hk3
        by_cases q3 : ns = ns2
        case neg =>
          rw [decide_eq_false q3]
          obtain rfl : Q = false := Bool.eq_false_iff.2 (fun hq => q3 (HQ.out.1 hq).2.2)
          obtain rfl : R = false := HBK.out (by first | rfl | trivial)
          go_wp2_with fail
          go_ret
          exact ⟨rfl, HK.out⟩
        rw [decide_eq_true q3]
        obtain rfl : Q = true := HQ.out.2 ⟨HQ1.out, HQ2.out, q3⟩
        have HI2 := Lib.hid (HYS.out (by first | rfl | trivial))
        clear q3
        go_wp2_with fail
        go_roundw
        case rel => exact ⟨k + 1, by omega, by go_num, HI2, HB, HZ, HK⟩
        case measure => simp [intOf]; omega
    · obtain rfl : k = n := by omega
      obtain rfl : R = true := HYES.out HI.out
      go_wp2_with fail
      go_ret
      exact ⟨rfl, HK.out⟩
end Go.Proofs.Ytmjodcackmjllaa
