/- The walks of layer 7, 16: Same. -/
import Derived.Test.YtmjodcackmjllaaH0
import Derived.Test.YtmjodcackmjllaaM7
namespace Go.Proofs.Ytmjodcackmjllaa
open Go.RowKit Go.Shelf
set_option linter.unusedVariables false
set_option linter.unusedSimpArgs false
def RM.p (x : RM) : List Int × List Bool × List Bool := (x.ds, x.es, x.ns)
def sameX (x y : RM) : Bool := decide (x.p = y.p)
theorem sameX_iff (x y : RM) : sameX x y = true ↔ x.ds = y.ds ∧ x.es = y.es ∧ x.ns = y.ns := by unfold sameX RM.p; simp
theorem sameX_self (x : RM) : sameX x x = true := (sameX_iff x x).2 ⟨rfl, rfl, rfl⟩
/-- two lists are the same -/
def sameL (a b : RMedl) : Bool := decide (a.nodes = b.nodes ∧ a.slot = b.slot ∧ a.gap = b.gap ∧ a.window = b.window ∧ a.drift = b.drift ∧ a.delay = b.delay ∧ a.cs = b.cs ∧ a.xs.map RM.p = b.xs.map RM.p)
theorem sameL_iff (a b : RMedl) : sameL a b = true ↔ a.nodes = b.nodes ∧ a.slot = b.slot ∧ a.gap = b.gap ∧ a.window = b.window ∧ a.drift = b.drift ∧ a.delay = b.delay ∧ a.cs = b.cs ∧ a.xs.map RM.p = b.xs.map RM.p := by unfold sameL; simp
theorem sameL_self (a : RMedl) : sameL a a = true := (sameL_iff a a).2 ⟨rfl, rfl, rfl, rfl, rfl, rfl, rfl, rfl⟩
theorem sameXs_no (xs ys : List RM) (i : Nat) (hi : i < xs.length) (hj : i < ys.length) (h : sameX xs[i] ys[i] = false) : ¬ xs.map RM.p = ys.map RM.p := by
  intro e
  have h2 := congrArg (fun l => l[i]?) e
  simp only [List.getElem?_map, List.getElem?_eq_getElem hi, List.getElem?_eq_getElem hj, Option.map_some, Option.some.injEq] at h2
  unfold sameX at h
  rw [decide_eq_true h2] at h
  cases h
theorem sameXs_yes (xs ys : List RM) (h1 : xs.length = ys.length) (h2 : ∀ i (hi : i < xs.length) (hj : i < ys.length), i < xs.length → sameX xs[i] ys[i] = true) : xs.map RM.p = ys.map RM.p := by
  refine List.ext_getElem (by simp only [List.length_map]; exact h1) (fun i hi hj => ?_)
  simp only [List.length_map] at hi hj
  simp only [List.getElem_map]
  exact of_decide_eq_true (h2 i hi hj hi)
set_option maxRecDepth 100000 in
set_option maxHeartbeats 1000000 in
theorem sameFn7_any (x y : RM) (w : World) (hx : x.In w) (hy : y.In w) : Calls Try.prog 80 #[.agg #[x.dv, x.ev, x.nv], .agg #[y.dv, y.ev, y.nv]] w fun e w' => e = .returned (.bool (sameX x y)) ∧ Keeps w w' := by
  have HX := Lib.hid hx
  have HY := Lib.hid hy
  clear hx hy
  have HI := Lib.hid (sameX_iff x y)
  obtain ⟨R, hR⟩ : ∃ R, R = sameX x y := ⟨_, rfl⟩
  rw [← hR] at HI ⊢
  clear hR
  obtain ⟨dv, ev, nv, ds, es, ns⟩ := x
  obtain ⟨dv2, ev2, nv2, ds2, es2, ns2⟩ := y
  simp only at HI
  have HK := Lib.hid (((Keeps.refl w).alloc (.cells #[dv, ev, nv] 71)).alloc (.cells #[dv2, ev2, nv2] 71))
  have HB := Lib.hid ((Box.new w 71 #[dv, ev, nv]).next (.cells #[dv2, ev2, nv2] 71))
  have hz := Box.new (w.alloc (.cells #[dv, ev, nv] 71)) 71 #[dv2, ev2, nv2]
  rw [World.size_alloc] at hz
  have HZ := Lib.hid hz
  clear hz
  obtain ⟨da, dc, hdv, -, -, -⟩ := id HX.out.d.shape
  obtain ⟨ea, ec, hev, -, -, -⟩ := id HX.out.e.shape
  obtain ⟨na, nc, hnv, -, -, -⟩ := id HX.out.n.shape
  obtain ⟨da2, dc2, hdv2, -, -, -⟩ := id HY.out.d.shape
  obtain ⟨ea2, ec2, hev2, -, -, -⟩ := id HY.out.e.shape
  obtain ⟨na2, nc2, hnv2, -, -, -⟩ := id HY.out.n.shape
  simp only at hdv hev hnv hdv2 hev2 hnv2
  subst hdv hev hnv hdv2 hev2 hnv2
  have HD := Lib.hid HX.out.d
  have HE := Lib.hid HX.out.e
  have HN := Lib.hid HX.out.n
  have HD2 := Lib.hid HY.out.d
  have HE2 := Lib.hid HY.out.e
  have HN2 := Lib.hid HY.out.n
  clear HX HY
  simp only at HD HE HN HD2 HE2 HN2
  go_enter Try.func80, Try.ntmps80
  go_wp2_with fail
  (with_reducible refine (eqInts7_any _ _ _ _ _ (by exact HD.out.keeps HK.out) (by exact HD2.out.keeps HK.out)).mono ?_)
  rintro e w1 ⟨rfl, hk1⟩
  replace HK := Lib.hid (HK.out.trans hk1)
  replace HB := Lib.hid (HB.out.keeps hk1)
  replace HZ := Lib.hid (HZ.out.keeps hk1)
  clear hk1
  have b0 := HB.out.cell 0 _ rfl
  have b1 := HB.out.cell 1 _ rfl
  have b2 := HB.out.cell 2 _ rfl
  have bl := HB.out.lt
  have z0 := HZ.out.cell 0 _ rfl
  have z1 := HZ.out.cell 1 _ rfl
  have z2 := HZ.out.cell 2 _ rfl
  have zl := HZ.out.lt
  by_cases t1 : ds = ds2
  case neg =>
    rw [decide_eq_false t1]
    obtain rfl : R = false := Bool.eq_false_iff.2 (fun h => t1 ((HI.out.1 h).1))
    go_wp2_with fail
    go_ret
    exact ⟨rfl, HK.out⟩
  rw [decide_eq_true t1]
  have HT1 := Lib.hid t1
  clear t1
  go_wp2_with fail
  clear b0 b1 b2 bl z0 z1 z2 zl
  (with_reducible refine (eqBools7_any _ _ _ _ _ (by exact HE.out.keeps HK.out) (by exact HE2.out.keeps HK.out)).mono ?_)
  rintro e w2 ⟨rfl, hk2⟩
  replace HK := Lib.hid (HK.out.trans hk2)
  replace HB := Lib.hid (HB.out.keeps hk2)
  replace HZ := Lib.hid (HZ.out.keeps hk2)
  clear hk2
  have b0 := HB.out.cell 0 _ rfl
  have b1 := HB.out.cell 1 _ rfl
  have b2 := HB.out.cell 2 _ rfl
  have bl := HB.out.lt
  have z0 := HZ.out.cell 0 _ rfl
  have z1 := HZ.out.cell 1 _ rfl
  have z2 := HZ.out.cell 2 _ rfl
  have zl := HZ.out.lt
  by_cases t2 : es = es2
  case neg =>
    rw [decide_eq_false t2]
    obtain rfl : R = false := Bool.eq_false_iff.2 (fun h => t2 ((HI.out.1 h).2.1))
    go_wp2_with fail
    go_ret
    exact ⟨rfl, HK.out⟩
  rw [decide_eq_true t2]
  have HT2 := Lib.hid t2
  clear t2
  go_wp2_with fail
  clear b0 b1 b2 bl z0 z1 z2 zl
  (with_reducible refine (eqBools7_any _ _ _ _ _ (by exact HN.out.keeps HK.out) (by exact HN2.out.keeps HK.out)).mono ?_)
  rintro e w3 ⟨rfl, hk3⟩
  replace HK := Lib.hid (HK.out.trans hk3)
  replace HB := Lib.hid (HB.out.keeps hk3)
  replace HZ := Lib.hid (HZ.out.keeps hk3)
  clear hk3
  by_cases t3 : ns = ns2
  case neg =>
    rw [decide_eq_false t3]
    obtain rfl : R = false := Bool.eq_false_iff.2 (fun h => t3 ((HI.out.1 h).2.2))
    go_wp2_with fail
    go_ret
    exact ⟨rfl, HK.out⟩
  rw [decide_eq_true t3]
  have HT3 := Lib.hid t3
  clear t3
  obtain rfl : R = true := HI.out.2 ⟨HT1.out, HT2.out, HT3.out⟩
  go_wp2_with fail
  go_ret
  exact ⟨rfl, HK.out⟩
set_option maxRecDepth 100000 in
set_option maxHeartbeats 2000000 in
theorem eqModes_any (a b : Option Addr) (n m cap cap2 : Nat) (xs ys : List RM) (w : World) (hx : RMs w a n cap xs) (hy : RMs w b m cap2 ys) :
    Calls Try.prog 79 #[.slice a n cap, .slice b m cap2, .func (.func 80) #[] #[]] w fun e w' => e = .returned (.bool (decide (xs.map RM.p = ys.map RM.p))) ∧ Keeps w w' := by
  have eg : ∀ args w, (callFunc 80 args).run Try.prog w = .ok (.enter 80 args) w := enters_of Try.func80 (by kernel_rfl) rfl
  have hxl := hx.len
  have hyl := hy.len
  have hxc := hx.hcap
  have hyc := hy.hcap
  have hxm := hx.hmax
  have hym := hy.hmax
  have HX := Lib.hid hx
  have HY := Lib.hid hy
  clear hx hy
  have HNO : Hid (¬ n = m → decide (xs.map RM.p = ys.map RM.p) = false) := Lib.hid (fun h => decide_eq_false (fun e => h (by
    have := congrArg List.length e
    simp only [List.length_map] at this
    omega)))
  have HBAD : Hid (∀ i (hi : i < xs.length) (hj : i < ys.length), sameX xs[i] ys[i] = false → decide (xs.map RM.p = ys.map RM.p) = false) := Lib.hid (fun i hi hj h => decide_eq_false (sameXs_no xs ys i hi hj h))
  have HYES : Hid (n = m → (∀ i (hi : i < xs.length) (hj : i < ys.length), i < n → sameX xs[i] ys[i] = true) → decide (xs.map RM.p = ys.map RM.p) = true) := Lib.hid (fun h1 h2 => decide_eq_true (sameXs_yes xs ys (by omega) (fun i hi hj hn => h2 i hi hj (by omega))))
  have HXL := Lib.hid hxl
  have HYL := Lib.hid hyl
  clear hxl hyl
  obtain ⟨R, hR⟩ : ∃ R, R = decide (xs.map RM.p = ys.map RM.p) := ⟨_, rfl⟩
  rw [← hR] at HNO HBAD HYES ⊢
  clear hR
  by_cases t0 : n = m
  case neg =>
    have d0 : ((n : Int) != (m : Int)) = true := by rw [bne_iff_ne]; omega
    have d1 : ((n : Int) == (m : Int)) = false := by rw [beq_eq_false_iff_ne]; omega
    have d2 : (n == m) = false := by rw [beq_eq_false_iff_ne]; exact t0
    have d3 : (n != m) = true := by rw [bne_iff_ne]; exact t0
    obtain rfl : R = false := HNO.out t0
    clear t0
    go_enter Try.func79, Try.ntmps79
    go_wp2_with fail
    go_ret
    exact ⟨rfl, Keeps.refl _⟩
  replace HYES := Lib.hid (HYES.out t0)
  subst t0
  go_enter Try.func79, Try.ntmps79
  go_wp2_with fail
  go_loopw [17] (fun i wr => ∃ k : Nat, k ≤ n ∧ i = .int .i64 k ∧ Hid (∀ i (hi : i < xs.length) (hj : i < ys.length), i < k → sameX xs[i] ys[i] = true) ∧ Hid (Keeps w wr)) (fun i _ => n - (intOf i).toNat)
  case atStart => exact ⟨0, Nat.zero_le _, rfl, Lib.hid (fun i hi hj h => absurd h (Nat.not_lt_zero _)), Keeps.refl _⟩
  case round =>
    obtain ⟨k, hk, rfl, HI, HK⟩ := hrel
    by_cases hlt : k < n
    · have hkx : k < xs.length := by rw [HXL.out]; exact hlt
      have hky : k < ys.length := by rw [HYL.out]; exact hlt
      obtain ⟨sb, so, rfl, hcell⟩ := HX.out.addr (show 0 < xs.length by omega)
      obtain ⟨tb, to, rfl, hcell2⟩ := HY.out.addr (show 0 < ys.length by omega)
      obtain ⟨hc0, hc1, hc2⟩ := hcell k hkx
      obtain ⟨hd0, hd1, hd2⟩ := hcell2 k hky
      replace hc0 := HK.out.later hc0
      replace hc1 := HK.out.later hc1
      replace hc2 := HK.out.later hc2
      replace hd0 := HK.out.later hd0
      replace hd1 := HK.out.later hd1
      replace hd2 := HK.out.later hd2
      have htb : tb < wr.heap.size := World.block_lt_of_cell? _ _ hd0
      have htb2 : ¬ tb = wr.heap.size := by omega
      have HXI := Lib.hid (HX.out.isIn _ (List.getElem_mem hkx))
      have HYI := Lib.hid (HY.out.isIn _ (List.getElem_mem hky))
      have HBK := Lib.hid (HBAD.out k hkx hky)
      have HYS : Hid (sameX xs[k] ys[k] = true → ∀ i (hi : i < xs.length) (hj : i < ys.length), i < k + 1 → sameX xs[i] ys[i] = true) := Lib.hid (fun h i hi hj hik => by
        by_cases e : i = k
        · subst e; exact h
        · exact HI.out i hi hj (by omega))
      obtain ⟨x, hx⟩ : ∃ x, x = xs[k] := ⟨_, rfl⟩
      obtain ⟨y, hy⟩ : ∃ y, y = ys[k] := ⟨_, rfl⟩
      rw [← hx] at hc0 hc1 hc2 HXI HBK HYS
      rw [← hy] at hd0 hd1 hd2 HYI HBK HYS
      clear hx hy HI hcell hcell2 hkx hky
      have HCON : Hid (∀ w', Keeps w w' → Calls Try.prog 80 #[.agg #[x.dv, x.ev, x.nv], .agg #[y.dv, y.ev, y.nv]] w' fun e w'' => e = .returned (.bool (sameX x y)) ∧ Keeps w' w'') := Lib.hid (fun w' hk => sameFn7_any x y w' (HXI.out.keeps hk) (HYI.out.keeps hk))
      obtain ⟨Q, hQ⟩ : ∃ Q, Q = sameX x y := ⟨_, rfl⟩
      rw [← hQ] at HCON HBK HYS
      clear hQ
      obtain ⟨dv, ev, nv, ds, es, ns⟩ := x
      obtain ⟨dv2, ev2, nv2, ds2, es2, ns2⟩ := y
      obtain ⟨da, dc, hdv, -, -, -⟩ := id HXI.out.d.shape
      obtain ⟨ea, ec, hev, -, -, -⟩ := id HXI.out.e.shape
      obtain ⟨na, nc, hnv, -, -, -⟩ := id HXI.out.n.shape
      obtain ⟨da2, dc2, hdv2, -, -, -⟩ := id HYI.out.d.shape
      obtain ⟨ea2, ec2, hev2, -, -, -⟩ := id HYI.out.e.shape
      obtain ⟨na2, nc2, hnv2, -, -, -⟩ := id HYI.out.n.shape
      simp only at hdv hev hnv hdv2 hev2 hnv2
      subst hdv hev hnv hdv2 hev2 hnv2
      clear HXI HYI
      simp only at hc0 hc1 hc2 hd0 hd1 hd2 HCON
      have HKA := Lib.hid ((HK.out.alloc (.cells #[.slice da ds.length dc, .slice ea es.length ec, .slice na ns.length nc] 71)).alloc (.cells #[.slice da2 ds2.length dc2, .slice ea2 es2.length ec2, .slice na2 ns2.length nc2] 71))
      cases Q
      · obtain rfl : R = false := HBK.out (by first | rfl | trivial)
        go_wp2_with (go_at_fn 80; with_reducible refine (HCON.out _ HKA.out).mono ?_; rintro e w1 ⟨rfl, hk1⟩)
        go_ret
        exact ⟨rfl, HKA.out.trans hk1⟩
      · have HI2 := Lib.hid (HYS.out (by first | rfl | trivial))
        go_wp2_with (go_at_fn 80; with_reducible refine (HCON.out _ HKA.out).mono ?_; rintro e w1 ⟨rfl, hk1⟩)
        go_roundw
        case rel => exact ⟨k + 1, by omega, by go_num, HI2, HKA.out.trans hk1⟩
        case measure => simp [intOf]; omega
    · obtain rfl : k = n := by omega
      obtain rfl : R = true := HYES.out HI.out
      go_wp2_with fail
      go_ret
      exact ⟨rfl, HK.out⟩
set_option maxRecDepth 100000 in
set_option maxHeartbeats 4000000 in
theorem msame_any (x y : RMedl) (w : World) (hx : x.In w) (hy : y.In w) : Calls Try.prog 32 #[x.val, y.val] w fun e w' => e = .returned (.bool (sameL x y)) ∧ Keeps w w' := by
  have HX := Lib.hid hx
  have HY := Lib.hid hy
  clear hx hy
  have HI := Lib.hid (sameL_iff x y)
  obtain ⟨R, hR⟩ : ∃ R, R = sameL x y := ⟨_, rfl⟩
  rw [← hR] at HI ⊢
  clear hR
  obtain ⟨no, sl, ga, wi, dr, de, cv, cs, ma, mn, mc, xs⟩ := x
  obtain ⟨no2, sl2, ga2, wi2, dr2, de2, cv2, cs2, ma2, mn2, mc2, ys⟩ := y
  simp only at HI
  obtain ⟨ca, cc, hcv, -, -, -⟩ := id HX.out.c.shape
  obtain ⟨ca2, cc2, hcv2, -, -, -⟩ := id HY.out.c.shape
  simp only at hcv hcv2
  subst hcv hcv2
  have HC := Lib.hid HX.out.c
  have HM := Lib.hid HX.out.m
  have HC2 := Lib.hid HY.out.c
  have HM2 := Lib.hid HY.out.m
  clear HX HY
  simp only at HC HM HC2 HM2
  show Calls Try.prog 32 #[.agg #[.int .i64 no, .int .i64 sl, .int .i64 ga, .int .i64 wi, .int .i64 dr, .int .i64 de, .slice ca cs.length cc, .slice ma mn mc], .agg #[.int .i64 no2, .int .i64 sl2, .int .i64 ga2, .int .i64 wi2, .int .i64 dr2, .int .i64 de2, .slice ca2 cs2.length cc2, .slice ma2 mn2 mc2]] w _
  by_cases t0 : no = no2
  case neg =>
    have d0 : (no != no2) = true := by rw [bne_iff_ne]; exact t0
    have e0 : (no == no2) = false := by rw [beq_eq_false_iff_ne]; exact t0
    obtain rfl : R = false := Bool.eq_false_iff.2 (fun h => t0 (by replace h := HI.out.1 h; exact h.1))
    have HK := Lib.hid (((Keeps.refl w).alloc (.cells #[.int .i64 no, .int .i64 sl, .int .i64 ga, .int .i64 wi, .int .i64 dr, .int .i64 de, .slice ca cs.length cc, .slice ma mn mc] 25)).alloc (.cells #[.int .i64 no2, .int .i64 sl2, .int .i64 ga2, .int .i64 wi2, .int .i64 dr2, .int .i64 de2, .slice ca2 cs2.length cc2, .slice ma2 mn2 mc2] 25))
    go_enter Try.func32, Try.ntmps32
    go_wp2_with fail
    go_ret
    exact ⟨rfl, HK.out⟩
  have d0 : (no != no) = false := by simp
  have e0 : (no == no) = true := by simp
  subst t0
  by_cases t1 : sl = sl2
  case neg =>
    have d1 : (sl != sl2) = true := by rw [bne_iff_ne]; exact t1
    have e1 : (sl == sl2) = false := by rw [beq_eq_false_iff_ne]; exact t1
    obtain rfl : R = false := Bool.eq_false_iff.2 (fun h => t1 (by replace h := HI.out.1 h; exact h.2.1))
    have HK := Lib.hid (((Keeps.refl w).alloc (.cells #[.int .i64 no, .int .i64 sl, .int .i64 ga, .int .i64 wi, .int .i64 dr, .int .i64 de, .slice ca cs.length cc, .slice ma mn mc] 25)).alloc (.cells #[.int .i64 no, .int .i64 sl2, .int .i64 ga2, .int .i64 wi2, .int .i64 dr2, .int .i64 de2, .slice ca2 cs2.length cc2, .slice ma2 mn2 mc2] 25))
    go_enter Try.func32, Try.ntmps32
    go_wp2_with fail
    go_ret
    exact ⟨rfl, HK.out⟩
  have d1 : (sl != sl) = false := by simp
  have e1 : (sl == sl) = true := by simp
  subst t1
  by_cases t2 : ga = ga2
  case neg =>
    have d2 : (ga != ga2) = true := by rw [bne_iff_ne]; exact t2
    have e2 : (ga == ga2) = false := by rw [beq_eq_false_iff_ne]; exact t2
    obtain rfl : R = false := Bool.eq_false_iff.2 (fun h => t2 (by replace h := HI.out.1 h; exact h.2.2.1))
    have HK := Lib.hid (((Keeps.refl w).alloc (.cells #[.int .i64 no, .int .i64 sl, .int .i64 ga, .int .i64 wi, .int .i64 dr, .int .i64 de, .slice ca cs.length cc, .slice ma mn mc] 25)).alloc (.cells #[.int .i64 no, .int .i64 sl, .int .i64 ga2, .int .i64 wi2, .int .i64 dr2, .int .i64 de2, .slice ca2 cs2.length cc2, .slice ma2 mn2 mc2] 25))
    go_enter Try.func32, Try.ntmps32
    go_wp2_with fail
    go_ret
    exact ⟨rfl, HK.out⟩
  have d2 : (ga != ga) = false := by simp
  have e2 : (ga == ga) = true := by simp
  subst t2
  by_cases t3 : wi = wi2
  case neg =>
    have d3 : (wi != wi2) = true := by rw [bne_iff_ne]; exact t3
    have e3 : (wi == wi2) = false := by rw [beq_eq_false_iff_ne]; exact t3
    obtain rfl : R = false := Bool.eq_false_iff.2 (fun h => t3 (by replace h := HI.out.1 h; exact h.2.2.2.1))
    have HK := Lib.hid (((Keeps.refl w).alloc (.cells #[.int .i64 no, .int .i64 sl, .int .i64 ga, .int .i64 wi, .int .i64 dr, .int .i64 de, .slice ca cs.length cc, .slice ma mn mc] 25)).alloc (.cells #[.int .i64 no, .int .i64 sl, .int .i64 ga, .int .i64 wi2, .int .i64 dr2, .int .i64 de2, .slice ca2 cs2.length cc2, .slice ma2 mn2 mc2] 25))
    go_enter Try.func32, Try.ntmps32
    go_wp2_with fail
    go_ret
    exact ⟨rfl, HK.out⟩
  have d3 : (wi != wi) = false := by simp
  have e3 : (wi == wi) = true := by simp
  subst t3
  by_cases t4 : dr = dr2
  case neg =>
    have d4 : (dr != dr2) = true := by rw [bne_iff_ne]; exact t4
    have e4 : (dr == dr2) = false := by rw [beq_eq_false_iff_ne]; exact t4
    obtain rfl : R = false := Bool.eq_false_iff.2 (fun h => t4 (by replace h := HI.out.1 h; exact h.2.2.2.2.1))
    have HK := Lib.hid (((Keeps.refl w).alloc (.cells #[.int .i64 no, .int .i64 sl, .int .i64 ga, .int .i64 wi, .int .i64 dr, .int .i64 de, .slice ca cs.length cc, .slice ma mn mc] 25)).alloc (.cells #[.int .i64 no, .int .i64 sl, .int .i64 ga, .int .i64 wi, .int .i64 dr2, .int .i64 de2, .slice ca2 cs2.length cc2, .slice ma2 mn2 mc2] 25))
    go_enter Try.func32, Try.ntmps32
    go_wp2_with fail
    go_ret
    exact ⟨rfl, HK.out⟩
  have d4 : (dr != dr) = false := by simp
  have e4 : (dr == dr) = true := by simp
  subst t4
  by_cases t5 : de = de2
  case neg =>
    have d5 : (de != de2) = true := by rw [bne_iff_ne]; exact t5
    have e5 : (de == de2) = false := by rw [beq_eq_false_iff_ne]; exact t5
    obtain rfl : R = false := Bool.eq_false_iff.2 (fun h => t5 (by replace h := HI.out.1 h; exact h.2.2.2.2.2.1))
    have HK := Lib.hid (((Keeps.refl w).alloc (.cells #[.int .i64 no, .int .i64 sl, .int .i64 ga, .int .i64 wi, .int .i64 dr, .int .i64 de, .slice ca cs.length cc, .slice ma mn mc] 25)).alloc (.cells #[.int .i64 no, .int .i64 sl, .int .i64 ga, .int .i64 wi, .int .i64 dr, .int .i64 de2, .slice ca2 cs2.length cc2, .slice ma2 mn2 mc2] 25))
    go_enter Try.func32, Try.ntmps32
    go_wp2_with fail
    go_ret
    exact ⟨rfl, HK.out⟩
  have d5 : (de != de) = false := by simp
  have e5 : (de == de) = true := by simp
  subst t5
  have HK := Lib.hid (((Keeps.refl w).alloc (.cells #[.int .i64 no, .int .i64 sl, .int .i64 ga, .int .i64 wi, .int .i64 dr, .int .i64 de, .slice ca cs.length cc, .slice ma mn mc] 25)).alloc (.cells #[.int .i64 no, .int .i64 sl, .int .i64 ga, .int .i64 wi, .int .i64 dr, .int .i64 de, .slice ca2 cs2.length cc2, .slice ma2 mn2 mc2] 25))
  have HB := Lib.hid ((Box.new w 25 #[.int .i64 no, .int .i64 sl, .int .i64 ga, .int .i64 wi, .int .i64 dr, .int .i64 de, .slice ca cs.length cc, .slice ma mn mc]).next (.cells #[.int .i64 no, .int .i64 sl, .int .i64 ga, .int .i64 wi, .int .i64 dr, .int .i64 de, .slice ca2 cs2.length cc2, .slice ma2 mn2 mc2] 25))
  have hz := Box.new (w.alloc (.cells #[.int .i64 no, .int .i64 sl, .int .i64 ga, .int .i64 wi, .int .i64 dr, .int .i64 de, .slice ca cs.length cc, .slice ma mn mc] 25)) 25 #[.int .i64 no, .int .i64 sl, .int .i64 ga, .int .i64 wi, .int .i64 dr, .int .i64 de, .slice ca2 cs2.length cc2, .slice ma2 mn2 mc2]
  rw [World.size_alloc] at hz
  have HZ := Lib.hid hz
  clear hz
  go_enter Try.func32, Try.ntmps32
  go_wp2_with fail
  (with_reducible refine (eqBools7_any _ _ _ _ _ (by exact HC.out.keeps HK.out) (by exact HC2.out.keeps HK.out)).mono ?_)
  rintro e w1 ⟨rfl, hk1⟩
  replace HK := Lib.hid (HK.out.trans hk1)
  replace HB := Lib.hid (HB.out.keeps hk1)
  replace HZ := Lib.hid (HZ.out.keeps hk1)
  clear hk1
  have b0 := HB.out.cell 0 _ rfl
  have b1 := HB.out.cell 1 _ rfl
  have b2 := HB.out.cell 2 _ rfl
  have b3 := HB.out.cell 3 _ rfl
  have b4 := HB.out.cell 4 _ rfl
  have b5 := HB.out.cell 5 _ rfl
  have b6 := HB.out.cell 6 _ rfl
  have b7 := HB.out.cell 7 _ rfl
  have bl := HB.out.lt
  have z0 := HZ.out.cell 0 _ rfl
  have z1 := HZ.out.cell 1 _ rfl
  have z2 := HZ.out.cell 2 _ rfl
  have z3 := HZ.out.cell 3 _ rfl
  have z4 := HZ.out.cell 4 _ rfl
  have z5 := HZ.out.cell 5 _ rfl
  have z6 := HZ.out.cell 6 _ rfl
  have z7 := HZ.out.cell 7 _ rfl
  have zl := HZ.out.lt
  by_cases t6 : cs = cs2
  case neg =>
    rw [decide_eq_false t6]
    obtain rfl : R = false := Bool.eq_false_iff.2 (fun h => t6 (by replace h := HI.out.1 h; exact h.2.2.2.2.2.2.1))
    go_wp2_with fail
    go_ret
    exact ⟨rfl, HK.out⟩
  rw [decide_eq_true t6]
  have HT6 := Lib.hid t6
  clear t6
  go_wp2_with fail
  clear b0 b1 b2 b3 b4 b5 b6 b7 bl z0 z1 z2 z3 z4 z5 z6 z7 zl
  (with_reducible refine (eqModes_any _ _ _ _ _ _ _ _ _ (by exact HM.out.keeps HK.out) (by exact HM2.out.keeps HK.out)).mono ?_)
  rintro e w2 ⟨rfl, hk2⟩
  replace HK := Lib.hid (HK.out.trans hk2)
  clear hk2 HB HZ
  have hR2 : decide (xs.map RM.p = ys.map RM.p) = R := by
    by_cases t : xs.map RM.p = ys.map RM.p
    · rw [decide_eq_true t]; exact (HI.out.2 ⟨by trivial, by trivial, by trivial, by trivial, by trivial, by trivial, HT6.out, t⟩).symm
    · rw [decide_eq_false t]; exact (Bool.eq_false_iff.2 (fun h => t (by replace h := HI.out.1 h; exact h.2.2.2.2.2.2.2))).symm
  rw [hR2]
  clear hR2
  cases R <;> · go_wp2_with fail
                go_ret
                exact ⟨rfl, HK.out⟩
end Go.Proofs.Ytmjodcackmjllaa
