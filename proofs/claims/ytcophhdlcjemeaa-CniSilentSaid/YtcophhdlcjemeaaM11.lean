/- The walks of layer 13: clocks. -/
import Derived.Test.YtcophhdlcjemeaaM10
namespace Go.Proofs.Ytcophhdlcjemeaa
open Go.RowKit Go.Shelf
set_option linter.unusedVariables false
set_option linter.unusedSimpArgs false
/-- a clock -/
structure RClk where
  start : Int
  slot : Int
  dv : Value
  ds : List Int
abbrev RClk.val (c : RClk) : Value := .agg #[.int .i64 c.start, .int .i64 c.slot, c.dv]
structure RClk.In (c : RClk) (w : World) : Prop where
  d : Ints w c.dv c.ds
theorem RClk.In.keeps {c : RClk} {w w' : World} (h : c.In w) (hk : Keeps w w') : c.In w' := ⟨h.d.keeps hk⟩
def devOk (f d : Int) : Bool := decide (-f ≤ d) && decide (d ≤ f)
def devsOk (f : Int) (ds : List Int) : Bool := ds.all (devOk f)
theorem devsOk_no (f : Int) (ds : List Int) (k : Nat) (hk : k < ds.length) (h : devOk f (ds.getD k 0) = false) : devsOk f ds = false := by
  unfold devsOk
  rw [Bool.eq_false_iff]
  intro hh
  rw [List.all_eq_true] at hh
  rw [List.getD_eq_getElem?_getD, List.getElem?_eq_getElem hk, Option.getD_some] at h
  rw [hh _ (List.getElem_mem hk)] at h
  cases h
theorem devsOk_yes (f : Int) (ds : List Int) (h : ∀ k, k < ds.length → devOk f (ds.getD k 0) = true) : devsOk f ds = true := by
  unfold devsOk
  rw [List.all_eq_true]
  intro x hx
  obtain ⟨i, hi, rfl⟩ := List.getElem_of_mem hx
  have := h i hi
  rwa [List.getD_eq_getElem?_getD, List.getElem?_eq_getElem hi, Option.getD_some] at this
def clkNums (c : RClk) : Bool := decide (0 ≤ c.start ∧ c.start ≤ 1099494850560 ∧ 0 ≤ c.slot ∧ c.slot ≤ 1048576 ∧ c.ds.length ≤ 8)
def clkOk (f : Int) (c : RClk) : Bool := clkNums c && devsOk f c.ds
def clkErr (m : RMedl) (c : RClk) : Int := cond (medlOk m) (cond (clkOk m.window c) 0 130) 70
set_option maxRecDepth 100000 in
theorem may1_any (f d : Int) (B : Nat) (w : World) (hf : 0 ≤ f) (hf2 : f ≤ 1048576) (hB : Box w B 2 #[.int .i64 f]) :
    Calls Try.prog 100 #[.int .i64 d, .pointer (some ⟨B, 0, none⟩)] w fun e w' => e = .returned (.bool (!devOk f d)) ∧ Keeps w w' := by
  have b0 := hB.cell 0 _ rfl
  have bl := hB.lt
  by_cases h1 : d < -f
  · have e1 : decide (d < -f) = true := by simpa using h1
    go_enter Try.func100, Try.ntmps100
    go_wp2_with fail
    go_ret
    exact ⟨ret_bool (by unfold devOk; rw [decide_eq_false (by omega)]; rfl), Keeps.refl _⟩
  have e1 : decide (d < -f) = false := by simpa using h1
  by_cases h2 : f < d
  · have e2 : decide (f < d) = true := by simpa using h2
    go_enter Try.func100, Try.ntmps100
    go_wp2_with fail
    go_ret
    exact ⟨ret_bool (by unfold devOk; rw [decide_eq_false (show ¬ d ≤ f by omega)]; simp), Keeps.refl _⟩
  have e2 : decide (f < d) = false := by simpa using h2
  go_enter Try.func100, Try.ntmps100
  go_wp2_with fail
  go_ret
  exact ⟨ret_bool (by unfold devOk; rw [decide_eq_true (show -f ≤ d by omega), decide_eq_true (show d ≤ f by omega)]; rfl), Keeps.refl _⟩
set_option maxRecDepth 100000 in
set_option maxHeartbeats 1000000 in
theorem idxDevs_any (f : Int) (v : Value) (ds : List Int) (B : Nat) (w : World) (hf : 0 ≤ f) (hf2 : f ≤ 1048576) (hv : Ints w v ds) (hB : Box w B 2 #[.int .i64 f]) :
    Calls Try.prog 108 #[v, .func (.func 100) #[] #[.pointer (some ⟨B, 0, none⟩)]] w fun e w' => (∃ z : Int, e = .returned (.int .i64 z) ∧ decide (0 ≤ z) = !devsOk f ds) ∧ Keeps w w' := by
  have eg : ∀ args w, (callFunc 100 args).run Try.prog w = .ok (.enter 100 args) w := enters_of Try.func100 (by kernel_rfl) rfl
  have HB := Lib.hid hB
  have HY := Lib.hid (devsOk_yes f ds)
  have HN := Lib.hid (devsOk_no f ds)
  obtain ⟨da, dc, rfl, hd1, hd2, hd3⟩ := hv.shape
  have HV := Lib.hid hv
  clear hB hv hd3
  go_enter Try.func108, Try.ntmps108
  go_wp2_with fail
  go_loopw [8] (fun i wr => ∃ k : Nat, k ≤ ds.length ∧ i = .int .i64 k ∧ Hid (∀ i, i < k → devOk f (ds.getD i 0) = true) ∧ Hid (Keeps w wr)) (fun i _ => ds.length - (intOf i).toNat)
  case atStart => exact ⟨0, by omega, rfl, fun i hi => absurd hi (by omega), Keeps.refl _⟩
  case round =>
    obtain ⟨k, hk, rfl, HI, HK⟩ := hrel
    by_cases hlt : k < ds.length
    · obtain ⟨b, off, rfl, hcc, -⟩ := (HV.out.keeps HK.out).shapeAt (by omega)
      have hcell := hcc k hlt
      clear hcc
      have HNO := Lib.hid (HN.out k hlt)
      have HYES : Hid (devOk f (ds.getD k 0) = true → ∀ i, i < k + 1 → devOk f (ds.getD i 0) = true) := fun h i hik => by
        by_cases e : i = k
        · subst e; exact h
        · exact HI.out i (by omega)
      obtain ⟨d, hd⟩ : ∃ d, d = ds.getD k 0 := ⟨_, rfl⟩
      rw [← hd] at hcell HNO HYES
      clear hd HI
      have HCON : Hid (∀ w', Keeps w w' → Calls Try.prog 100 #[.int .i64 d, .pointer (some ⟨B, 0, none⟩)] w' fun e w'' => e = .returned (.bool (!devOk f d)) ∧ Keeps w' w'') := fun w' hk => may1_any f d B w' hf hf2 (HB.out.keeps hk)
      obtain ⟨A, hA⟩ : ∃ A, A = devOk f d := ⟨_, rfl⟩
      rw [← hA] at HCON HNO HYES
      clear hA
      cases A
      · go_wp2_with (go_at_fn 100; with_reducible refine (HCON.out _ HK.out).mono ?_; rintro e w1 ⟨rfl, hk1⟩)
        go_ret
        exact ⟨⟨k, rfl, by rw [HNO.out (by first | rfl | trivial)]; simp⟩, HK.out.trans hk1⟩
      · go_wp2_with (go_at_fn 100; with_reducible refine (HCON.out _ HK.out).mono ?_; rintro e w1 ⟨rfl, hk1⟩)
        go_roundw
        case rel => exact ⟨k + 1, by omega, by go_num, HYES.out (by first | rfl | trivial), HK.out.trans hk1⟩
        case measure => simp [intOf]; omega
    · obtain rfl : k = ds.length := by omega
      have HR := Lib.hid (HY.out HI.out)
      go_wp2_with fail
      go_ret
      exact ⟨⟨-1, rfl, by rw [HR.out]; rfl⟩, HK.out⟩
set_option maxRecDepth 100000 in
set_option maxHeartbeats 1000000 in
theorem hasDevs_any (f : Int) (v : Value) (ds : List Int) (B : Nat) (w : World) (hf : 0 ≤ f) (hf2 : f ≤ 1048576) (hv : Ints w v ds) (hB : Box w B 2 #[.int .i64 f]) :
    Calls Try.prog 99 #[v, .func (.func 100) #[] #[.pointer (some ⟨B, 0, none⟩)]] w fun e w' => e = .returned (.bool (!devsOk f ds)) ∧ Keeps w w' := by
  have HCON := Lib.hid (idxDevs_any f v ds B w hf hf2 hv hB)
  clear hv hB
  obtain ⟨R, hR⟩ : ∃ R, R = devsOk f ds := ⟨_, rfl⟩
  rw [← hR] at HCON ⊢
  clear hR
  go_enter Try.func99, Try.ntmps99
  go_wp2_with fail
  with_reducible refine HCON.out.mono ?_
  rintro e w1 ⟨⟨z, rfl, hz⟩, hk1⟩
  have HZ := Lib.hid hz
  clear hz
  by_cases h : 0 ≤ z
  · have hd : decide (0 ≤ z) = true := by simpa using h
    rw [hd] at HZ
    go_wp2_with fail
    go_ret
    exact ⟨ret_bool HZ.out, hk1⟩
  · have hd : decide (0 ≤ z) = false := by simpa using h
    rw [hd] at HZ
    go_wp2_with fail
    go_ret
    exact ⟨ret_bool HZ.out, hk1⟩
set_option maxRecDepth 100000 in
set_option maxHeartbeats 1000000 in
theorem may_any (m : RMedl) (c : RClk) (w : World) (hm : m.In w) (hc : c.In w) (hf : 0 ≤ m.window) (hf2 : m.window ≤ 1048576) :
    Calls Try.prog 83 #[m.val, c.val] w fun e w' => e = .returned (.bool (clkOk m.window c)) ∧ Keeps w w' := by
  have HM := Lib.hid hm
  have HC := Lib.hid hc
  clear hm hc
  have HR : Hid (clkOk m.window c = (decide (0 ≤ c.start ∧ c.start ≤ 1099494850560 ∧ 0 ≤ c.slot ∧ c.slot ≤ 1048576 ∧ c.ds.length ≤ 8) && devsOk m.window c.ds)) := Lib.hid rfl
  obtain ⟨R, hR⟩ : ∃ R, R = clkOk m.window c := ⟨_, rfl⟩
  rw [← hR] at HR ⊢
  clear hR
  obtain ⟨ca, cc, hcv, hc1, hc2, hc3⟩ := HM.out.c.shape
  obtain ⟨da, dc, hdv, hd1, hd2, hd3⟩ := HC.out.d.shape
  clear hc3 hd3
  obtain ⟨no, sl, ga, wi, dr, de, cv, cs, ma, mn, mc, xs⟩ := m
  obtain ⟨st, so, dv, ds⟩ := c
  simp only at hcv hdv hc1 hd1 HR hf hf2
  subst hcv hdv
  have HNO : Hid (¬ (0 ≤ st ∧ st ≤ 1099494850560 ∧ 0 ≤ so ∧ so ≤ 1048576 ∧ ds.length ≤ 8) → R = false) := fun h => by rw [HR.out, decide_eq_false h]; rfl
  have HYES : Hid ((0 ≤ st ∧ st ≤ 1099494850560 ∧ 0 ≤ so ∧ so ≤ 1048576 ∧ ds.length ≤ 8) → R = devsOk wi ds) := fun h => by rw [HR.out, decide_eq_true h]; rfl
  clear HR
  have HK := Lib.hid ((((Keeps.refl w).alloc (.cells #[.int .i64 no, .int .i64 sl, .int .i64 ga, .int .i64 wi, .int .i64 dr, .int .i64 de, .slice ca cs.length cc, .slice ma mn mc] 25)).alloc (.cells #[.int .i64 st, .int .i64 so, .slice da ds.length dc] 28)).alloc (.cells #[.int .i64 wi] 2))
  show Calls Try.prog 83 #[.agg #[.int .i64 no, .int .i64 sl, .int .i64 ga, .int .i64 wi, .int .i64 dr, .int .i64 de, .slice ca cs.length cc, .slice ma mn mc], .agg #[.int .i64 st, .int .i64 so, .slice da ds.length dc]] w _
  by_cases t1 : st < 0
  · have HE := Lib.hid (HNO.out (by omega))
    have d0 : decide (st < 0) = true := by simpa using t1
    go_enter Try.func83, Try.ntmps83
    go_wp2_with fail
    go_ret
    exact ⟨ret_bool HE.out.symm, HK.out⟩
  have t1_0 : decide (st < 0) = false := by simpa using t1
  by_cases t2 : 1099494850560 < st
  · have HE := Lib.hid (HNO.out (by omega))
    have d0 : decide (1099494850560 < st) = true := by simpa using t2
    go_enter Try.func83, Try.ntmps83
    go_wp2_with fail
    go_ret
    exact ⟨ret_bool HE.out.symm, HK.out⟩
  have t2_0 : decide (1099494850560 < st) = false := by simpa using t2
  by_cases t3 : so < 0
  · have HE := Lib.hid (HNO.out (by omega))
    have d0 : decide (so < 0) = true := by simpa using t3
    go_enter Try.func83, Try.ntmps83
    go_wp2_with fail
    go_ret
    exact ⟨ret_bool HE.out.symm, HK.out⟩
  have t3_0 : decide (so < 0) = false := by simpa using t3
  by_cases t4 : 1048576 < so
  · have HE := Lib.hid (HNO.out (by omega))
    have d0 : decide (1048576 < so) = true := by simpa using t4
    go_enter Try.func83, Try.ntmps83
    go_wp2_with fail
    go_ret
    exact ⟨ret_bool HE.out.symm, HK.out⟩
  have t4_0 : decide (1048576 < so) = false := by simpa using t4
  by_cases t5 : 8 < ds.length
  · have HE := Lib.hid (HNO.out (by omega))
    have d0 : decide ((8 : Int) < (ds.length : Int)) = true := by simp; omega
    have d1 : decide (8 < ds.length) = true := by simpa using t5
    go_enter Try.func83, Try.ntmps83
    go_wp2_with fail
    go_ret
    exact ⟨ret_bool HE.out.symm, HK.out⟩
  have t5_0 : decide ((8 : Int) < (ds.length : Int)) = false := by simp; omega
  have t5_1 : decide (8 < ds.length) = false := by simpa using t5
  have HE := Lib.hid (HYES.out (by omega))
  go_enter Try.func83, Try.ntmps83
  go_wp2_with fail
  have hb := Box.new ((w.alloc (.cells #[.int .i64 no, .int .i64 sl, .int .i64 ga, .int .i64 wi, .int .i64 dr, .int .i64 de, .slice ca cs.length cc, .slice ma mn mc] 25)).alloc (.cells #[.int .i64 st, .int .i64 so, .slice da ds.length dc] 28)) 2 #[.int .i64 wi]
  rw [World.size_alloc, World.size_alloc] at hb
  with_reducible refine (hasDevs_any wi _ ds _ _ hf hf2 (by exact HC.out.d.keeps HK.out) (by exact hb)).mono ?_
  rintro e w1 ⟨rfl, hk1⟩
  replace HK := Lib.hid (HK.out.trans hk1)
  clear hk1 hb
  obtain ⟨G, hG⟩ : ∃ G, G = devsOk wi ds := ⟨_, rfl⟩
  rw [← hG] at HE ⊢
  clear hG
  go_wp2_with fail
  go_ret
  exact ⟨ret_bool (by rw [HE.out]), HK.out⟩
theorem medlOk_nums {m : RMedl} (h : medlOk m = true) : 4 ≤ m.nodes ∧ m.nodes ≤ 8 ∧ 0 ≤ m.window ∧ m.window ≤ 1048576 ∧ 0 ≤ m.gap ∧ m.gap ≤ 1048576 ∧ 0 ≤ m.slot ∧ m.slot ≤ 16777216 ∧ 0 ≤ m.drift ∧ m.drift ≤ 64 ∧ 0 ≤ m.delay ∧ m.delay ≤ 64 := by
  obtain ⟨h1, -, h3⟩ := (medlOk_iff m).1 h
  have a := (countsOk_iff m).1 h1
  have b := (numsOk_iff m).1 h3
  have c : 34 ≤ m.mair ∧ m.mair ≤ 4000 := mairI_le _ _
  have hp : 0 ≤ m.nodes * m.drift := Int.mul_nonneg (by omega) (by omega)
  rw [Int.mul_assoc] at b
  omega
set_option maxRecDepth 100000 in
set_option maxHeartbeats 1000000 in
theorem kcheck_any (m : RMedl) (c : RClk) (w : World) (hm : m.In w) (hc : c.In w) :
    Calls Try.prog 55 #[m.val, c.val] w fun e w' => e = .returned (.int .i64 (clkErr m c)) ∧ Keeps w w' := by
  have HM := Lib.hid hm
  have HC := Lib.hid hc
  clear hm hc
  have HOK := Lib.hid (@medlOk_nums m)
  have HCH := Lib.hid (mcheck_any m)
  have HMA := Lib.hid (may_any m c)
  have HR : Hid (clkErr m c = cond (medlOk m) (cond (clkOk m.window c) 0 130) 70) := Lib.hid rfl
  have HE : Hid (medlErr m = cond (medlOk m) 0 70) := Lib.hid rfl
  obtain ⟨R, hR⟩ : ∃ R, R = clkErr m c := ⟨_, rfl⟩
  rw [← hR] at HR ⊢
  clear hR
  rw [HE.out] at HCH
  clear HE
  obtain ⟨A, hA⟩ : ∃ A, A = medlOk m := ⟨_, rfl⟩
  rw [← hA] at HR HCH HOK
  clear hA
  obtain ⟨G, hG⟩ : ∃ G, G = clkOk m.window c := ⟨_, rfl⟩
  rw [← hG] at HR HMA
  clear hG
  obtain ⟨ca, cc, hcv, hc1, hc2, hc3⟩ := HM.out.c.shape
  obtain ⟨da, dc, hdv, hd1, hd2, hd3⟩ := HC.out.d.shape
  clear hc3 hd3
  obtain ⟨no, sl, ga, wi, dr, de, cv, cs, ma, mn, mc, xs⟩ := m
  obtain ⟨st, so, dv, ds⟩ := c
  simp only at hcv hdv hc1 hd1 HOK HMA HCH
  subst hcv hdv
  have HK := Lib.hid (((Keeps.refl w).alloc (.cells #[.int .i64 no, .int .i64 sl, .int .i64 ga, .int .i64 wi, .int .i64 dr, .int .i64 de, .slice ca cs.length cc, .slice ma mn mc] 25)).alloc (.cells #[.int .i64 st, .int .i64 so, .slice da ds.length dc] 28))
  have HB1 := Lib.hid ((Box.new w 25 #[.int .i64 no, .int .i64 sl, .int .i64 ga, .int .i64 wi, .int .i64 dr, .int .i64 de, .slice ca cs.length cc, .slice ma mn mc]).next (.cells #[.int .i64 st, .int .i64 so, .slice da ds.length dc] 28))
  have hb := Box.new (w.alloc (.cells #[.int .i64 no, .int .i64 sl, .int .i64 ga, .int .i64 wi, .int .i64 dr, .int .i64 de, .slice ca cs.length cc, .slice ma mn mc] 25)) 28 #[.int .i64 st, .int .i64 so, .slice da ds.length dc]
  rw [World.size_alloc] at hb
  have HB2 := Lib.hid hb
  clear hb
  show Calls Try.prog 55 #[.agg #[.int .i64 no, .int .i64 sl, .int .i64 ga, .int .i64 wi, .int .i64 dr, .int .i64 de, .slice ca cs.length cc, .slice ma mn mc], .agg #[.int .i64 st, .int .i64 so, .slice da ds.length dc]] w _
  cases A
  · go_enter Try.func55, Try.ntmps55
    go_wp2_with fail
    with_reducible refine (HCH.out _ (by exact HM.out.keeps HK.out)).mono ?_
    rintro e w1 ⟨rfl, hk1⟩
    replace HK := Lib.hid (HK.out.trans hk1)
    clear hk1
    simp only [cond_false]
    go_wp2_with fail
    go_ret
    exact ⟨ret_int HR.out.symm, HK.out⟩
  have hn := HOK.out (by first | rfl | trivial)
  go_enter Try.func55, Try.ntmps55
  go_wp2_with fail
  with_reducible refine (HCH.out _ (by exact HM.out.keeps HK.out)).mono ?_
  rintro e w1 ⟨rfl, hk1⟩
  replace HK := Lib.hid (HK.out.trans hk1)
  replace HB1 := Lib.hid (HB1.out.keeps hk1)
  replace HB2 := Lib.hid (HB2.out.keeps hk1)
  clear hk1
  have m0 := HB1.out.cell 0 _ rfl
  have m1 := HB1.out.cell 1 _ rfl
  have m2 := HB1.out.cell 2 _ rfl
  have m3 := HB1.out.cell 3 _ rfl
  have m4 := HB1.out.cell 4 _ rfl
  have m5 := HB1.out.cell 5 _ rfl
  have m6 := HB1.out.cell 6 _ rfl
  have m7 := HB1.out.cell 7 _ rfl
  have ml := HB1.out.lt
  have k0 := HB2.out.cell 0 _ rfl
  have k1 := HB2.out.cell 1 _ rfl
  have k2 := HB2.out.cell 2 _ rfl
  have kl := HB2.out.lt
  simp only [cond_true]
  go_wp2_with fail
  with_reducible refine (HMA.out _ (by exact HM.out.keeps HK.out) (by exact HC.out.keeps HK.out) (by omega) (by omega)).mono ?_
  rintro e w2 ⟨rfl, hk1⟩
  replace HK := Lib.hid (HK.out.trans hk1)
  clear hk1 m0 m1 m2 m3 m4 m5 m6 m7 ml k0 k1 k2 kl
  cases G
  · go_wp2_with fail
    go_ret
    exact ⟨ret_int HR.out.symm, HK.out⟩
  · go_wp2_with fail
    go_ret
    exact ⟨ret_int HR.out.symm, HK.out⟩
end Go.Proofs.Ytcophhdlcjemeaa
