/- The reference of layer 10, 1: Fits, May, asked, Ask, Take, Nexts. -/
import Derived.Test.YtmjodcackmjllaaD6
import Derived.Test.YtmjodcackmjllaaD4
import Derived.Test.YtmjodcackmjllaaC2
import Derived.Test.YtmjodcackmjllaaM10
namespace Go.Proofs.Ytmjodcackmjllaa
open Go.RowKit Go.Shelf
set_option linter.unusedVariables false
set_option linter.unusedSimpArgs false
theorem csErr_zero {c : CS} {n : Int} (h : csErr c n = 0) : csOk c n = true := by
  unfold csErr at h
  cases h1 : csN n <;> cases h2 : csOk c n <;> simp_all
set_option maxRecDepth 100000 in
set_option maxHeartbeats 2000000 in
theorem fits_any (m : RMedl) (c : CS) (w : World) (hm : m.In w) : Calls Try.prog 84 #[m.val, c.val] w fun e w' => e = .returned (.bool (stOk m c)) ∧ Keeps w w' := by
  have HM := Lib.hid hm
  clear hm
  have HCC := Lib.hid (rccheck_any c m.nodes)
  have HMI : Hid (csErr c m.nodes = 0 → mIn m c.m = decide (c.m < m.xs.length)) := Lib.hid (fun h => by
    have h2 := ((csOk_iff c _).1 (csErr_zero h)).2.2.2.2.1
    unfold mIn
    rw [decide_eq_true h2, Bool.true_and])
  have HST : Hid (stOk m c = (decide (csErr c m.nodes = 0) && (mIn m c.m && decide (c.x ≤ m.xs.length)))) := Lib.hid rfl
  obtain ⟨S, hS⟩ : ∃ S, S = stOk m c := ⟨_, rfl⟩
  obtain ⟨D, hD⟩ : ∃ D, D = csErr c m.nodes := ⟨_, rfl⟩
  obtain ⟨I, hI⟩ : ∃ I, I = mIn m c.m := ⟨_, rfl⟩
  rw [← hD] at HCC HMI
  rw [← hI] at HMI
  rw [← hS, ← hD, ← hI] at HST
  rw [← hS]
  clear hS hD hI
  obtain ⟨ca, cc, hcv, hc1, hc2, hc3⟩ := HM.out.c.shape
  clear hc3
  have HX := Lib.hid HM.out.m
  obtain ⟨no, sl, ga, wi, dr, de, cv, cs, ma, mn, mc, xs⟩ := m
  obtain ⟨ct, cp, cm, cx, cb⟩ := c
  simp only at hcv hc1 HX HCC HST HMI
  have hlen := HX.out.len
  have hcap := HX.out.hcap
  have hmax := HX.out.hmax
  subst hlen hcv
  have HK := Lib.hid (((Keeps.refl w).alloc (.cells #[.int .i64 no, .int .i64 sl, .int .i64 ga, .int .i64 wi, .int .i64 dr, .int .i64 de, .slice ca cs.length cc, .slice ma xs.length mc] 25)).alloc (.cells #[.int .i64 ct, .int .i64 cp, .int .i64 cm, .int .i64 cx, .int .i64 cb] 27))
  have HB := Lib.hid ((Box.new w 25 #[.int .i64 no, .int .i64 sl, .int .i64 ga, .int .i64 wi, .int .i64 dr, .int .i64 de, .slice ca cs.length cc, .slice ma xs.length mc]).next (.cells #[.int .i64 ct, .int .i64 cp, .int .i64 cm, .int .i64 cx, .int .i64 cb] 27))
  have hz := Box.new (w.alloc (.cells #[.int .i64 no, .int .i64 sl, .int .i64 ga, .int .i64 wi, .int .i64 dr, .int .i64 de, .slice ca cs.length cc, .slice ma xs.length mc] 25)) 27 #[.int .i64 ct, .int .i64 cp, .int .i64 cm, .int .i64 cx, .int .i64 cb]
  rw [World.size_alloc] at hz
  have HA := Lib.hid hz
  clear hz
  show Calls Try.prog 84 #[.agg #[.int .i64 no, .int .i64 sl, .int .i64 ga, .int .i64 wi, .int .i64 dr, .int .i64 de, .slice ca cs.length cc, .slice ma xs.length mc], .agg #[.int .i64 ct, .int .i64 cp, .int .i64 cm, .int .i64 cx, .int .i64 cb]] w _
  go_enter Try.func84, Try.ntmps84
  have m0 := HB.out.cell 0 _ rfl
  have m1 := HB.out.cell 1 _ rfl
  have m2 := HB.out.cell 2 _ rfl
  have m3 := HB.out.cell 3 _ rfl
  have m4 := HB.out.cell 4 _ rfl
  have m5 := HB.out.cell 5 _ rfl
  have m6 := HB.out.cell 6 _ rfl
  have m7 := HB.out.cell 7 _ rfl
  have ml := HB.out.lt
  have c0 := HA.out.cell 0 _ rfl
  have c1 := HA.out.cell 1 _ rfl
  have c2 := HA.out.cell 2 _ rfl
  have c3 := HA.out.cell 3 _ rfl
  have c4 := HA.out.cell 4 _ rfl
  have cl := HA.out.lt
  go_wp2_with fail
  with_reducible refine (HCC.out _).mono ?_
  rintro e w1 ⟨rfl, hk1⟩
  replace HB := Lib.hid (HB.out.keeps hk1)
  replace HA := Lib.hid (HA.out.keeps hk1)
  replace HK := Lib.hid (HK.out.trans hk1)
  clear hk1 m0 m1 m2 m3 m4 m5 m6 m7 ml c0 c1 c2 c3 c4 cl
  have m0 := HB.out.cell 0 _ rfl
  have m1 := HB.out.cell 1 _ rfl
  have m2 := HB.out.cell 2 _ rfl
  have m3 := HB.out.cell 3 _ rfl
  have m4 := HB.out.cell 4 _ rfl
  have m5 := HB.out.cell 5 _ rfl
  have m6 := HB.out.cell 6 _ rfl
  have m7 := HB.out.cell 7 _ rfl
  have ml := HB.out.lt
  have c0 := HA.out.cell 0 _ rfl
  have c1 := HA.out.cell 1 _ rfl
  have c2 := HA.out.cell 2 _ rfl
  have c3 := HA.out.cell 3 _ rfl
  have c4 := HA.out.cell 4 _ rfl
  have cl := HA.out.lt
  by_cases h0 : D = 0
  case neg =>
    have d0 : (D == 0) = false := by rw [beq_eq_false_iff_ne]; exact h0
    rw [decide_eq_false h0, Bool.false_and] at HST
    obtain rfl : S = false := HST.out
    go_wp2_with fail
    go_ret
    exact ⟨rfl, HK.out⟩
  subst h0
  have hI := HMI.out rfl
  rw [hI, decide_eq_true rfl, Bool.true_and] at HST
  clear hI HMI
  by_cases h1 : cm < (xs.length : Int)
  case neg =>
    have d1 : decide (cm < (xs.length : Int)) = false := decide_eq_false h1
    rw [d1, Bool.false_and] at HST
    obtain rfl : S = false := HST.out
    go_wp2_with fail
    go_ret
    exact ⟨rfl, HK.out⟩
  have d1 : decide (cm < (xs.length : Int)) = true := decide_eq_true h1
  rw [d1, Bool.true_and] at HST
  by_cases h2 : cx ≤ (xs.length : Int)
  · have d2 : decide (cx ≤ (xs.length : Int)) = true := decide_eq_true h2
    rw [d2] at HST
    obtain rfl : S = true := HST.out
    go_wp2_with fail
    go_ret
    exact ⟨rfl, HK.out⟩
  · have d2 : decide (cx ≤ (xs.length : Int)) = false := decide_eq_false h2
    rw [d2] at HST
    obtain rfl : S = false := HST.out
    go_wp2_with fail
    go_ret
    exact ⟨rfl, HK.out⟩
set_option maxRecDepth 100000 in
set_option maxHeartbeats 2000000 in
theorem rmayX_any (m : RMedl) (c : CS) (k : Int) (w : World) (hm : m.In w) : Calls Try.prog 38 #[m.val, c.val, .int .i64 k] w fun e w' => e = .returned (.bool (mayR m c k)) ∧ Keeps w w' := by
  have HM := Lib.hid hm
  clear hm
  have HCH : Hid (∀ w, m.In w → Calls Try.prog 29 #[m.val] w fun e w' => e = .returned (.int .i64 (cond (medlOk m) 0 70)) ∧ Keeps w w') := Lib.hid (rmcheck_any m)
  have HFI := Lib.hid (fits_any m c)
  have HMI : Hid (stOk m c = true → 0 ≤ c.m ∧ c.m < m.xs.length) := Lib.hid (fun h => (mIn_iff m c.m).1 ((stOk_iff m c).1 h).2.1)
  have HNS := Lib.hid (@medlOk_ns m)
  have HR : Hid (mayR m c k = (medlOk m && (stOk m c && ((decide (0 ≤ k) && decide (k < m.xs.length)) && (!decide (k = c.m) && (decide (c.x = 0) && nextAt m c.m k)))))) := Lib.hid (by unfold mayR asksB mayP mIn; rw [Bool.and_assoc])
  have HNA : Hid (∀ x, m.xs[c.m.toNat]? = some x → nextAt m c.m k = x.ns.getD k.toNat false) := Lib.hid (fun x hx => by unfold nextAt; rw [hx])
  obtain ⟨R, hR⟩ : ∃ R, R = mayR m c k := ⟨_, rfl⟩
  obtain ⟨OK, hOK⟩ : ∃ OK, OK = medlOk m := ⟨_, rfl⟩
  obtain ⟨S, hS⟩ : ∃ S, S = stOk m c := ⟨_, rfl⟩
  obtain ⟨N, hN⟩ : ∃ N, N = nextAt m c.m k := ⟨_, rfl⟩
  rw [← hOK] at HCH HNS
  rw [← hS] at HFI HMI
  rw [← hN] at HNA
  rw [← hR, ← hOK, ← hS, ← hN] at HR
  rw [← hR]
  clear hR hOK hS hN
  obtain ⟨ca, cc, hcv, hc1, hc2, hc3⟩ := HM.out.c.shape
  clear hc3
  have HX := Lib.hid HM.out.m
  obtain ⟨no, sl, ga, wi, dr, de, cv, cs, ma, mn, mc, xs⟩ := m
  obtain ⟨ct, cp, cm, cx, cb⟩ := c
  simp only at hcv hc1 HX HR HNA HNS HMI
  have hlen := HX.out.len
  have hcap := HX.out.hcap
  have hmax := HX.out.hmax
  subst hlen hcv
  have HK := Lib.hid (((Keeps.refl w).alloc (.cells #[.int .i64 no, .int .i64 sl, .int .i64 ga, .int .i64 wi, .int .i64 dr, .int .i64 de, .slice ca cs.length cc, .slice ma xs.length mc] 25)).alloc (.cells #[.int .i64 ct, .int .i64 cp, .int .i64 cm, .int .i64 cx, .int .i64 cb] 27))
  have HB := Lib.hid ((Box.new w 25 #[.int .i64 no, .int .i64 sl, .int .i64 ga, .int .i64 wi, .int .i64 dr, .int .i64 de, .slice ca cs.length cc, .slice ma xs.length mc]).next (.cells #[.int .i64 ct, .int .i64 cp, .int .i64 cm, .int .i64 cx, .int .i64 cb] 27))
  have hz := Box.new (w.alloc (.cells #[.int .i64 no, .int .i64 sl, .int .i64 ga, .int .i64 wi, .int .i64 dr, .int .i64 de, .slice ca cs.length cc, .slice ma xs.length mc] 25)) 27 #[.int .i64 ct, .int .i64 cp, .int .i64 cm, .int .i64 cx, .int .i64 cb]
  rw [World.size_alloc] at hz
  have HA := Lib.hid hz
  clear hz
  show Calls Try.prog 38 #[.agg #[.int .i64 no, .int .i64 sl, .int .i64 ga, .int .i64 wi, .int .i64 dr, .int .i64 de, .slice ca cs.length cc, .slice ma xs.length mc], .agg #[.int .i64 ct, .int .i64 cp, .int .i64 cm, .int .i64 cx, .int .i64 cb], .int .i64 k] w _
  go_enter Try.func38, Try.ntmps38
  go_wp2_with fail
  with_reducible refine (HCH.out _ (by exact HM.out.keeps HK.out)).mono ?_
  rintro e w0 ⟨rfl, hk1⟩
  replace HB := Lib.hid (HB.out.keeps hk1)
  replace HA := Lib.hid (HA.out.keeps hk1)
  replace HK := Lib.hid (HK.out.trans hk1)
  clear hk1
  have m0 := HB.out.cell 0 _ rfl
  have m1 := HB.out.cell 1 _ rfl
  have m2 := HB.out.cell 2 _ rfl
  have m3 := HB.out.cell 3 _ rfl
  have m4 := HB.out.cell 4 _ rfl
  have m5 := HB.out.cell 5 _ rfl
  have m6 := HB.out.cell 6 _ rfl
  have m7 := HB.out.cell 7 _ rfl
  have ml := HB.out.lt
  have c0 := HA.out.cell 0 _ rfl
  have c1 := HA.out.cell 1 _ rfl
  have c2 := HA.out.cell 2 _ rfl
  have c3 := HA.out.cell 3 _ rfl
  have c4 := HA.out.cell 4 _ rfl
  have cl := HA.out.lt
  cases OK
  · rw [Bool.false_and] at HR
    simp only [cond_false]
    go_wp2_with fail
    go_ret
    exact ⟨by rw [HR.out]; rfl, HK.out⟩
  rw [Bool.true_and] at HR
  simp only [cond_true]
  replace HNS := Lib.hid (HNS.out rfl)
  go_wp2_with fail
  with_reducible refine (HFI.out _ (by exact HM.out.keeps HK.out)).mono ?_
  rintro e w1 ⟨rfl, hk1⟩
  replace HB := Lib.hid (HB.out.keeps hk1)
  replace HA := Lib.hid (HA.out.keeps hk1)
  replace HK := Lib.hid (HK.out.trans hk1)
  clear hk1 m0 m1 m2 m3 m4 m5 m6 m7 ml c0 c1 c2 c3 c4 cl
  have m0 := HB.out.cell 0 _ rfl
  have m1 := HB.out.cell 1 _ rfl
  have m2 := HB.out.cell 2 _ rfl
  have m3 := HB.out.cell 3 _ rfl
  have m4 := HB.out.cell 4 _ rfl
  have m5 := HB.out.cell 5 _ rfl
  have m6 := HB.out.cell 6 _ rfl
  have m7 := HB.out.cell 7 _ rfl
  have ml := HB.out.lt
  have c0 := HA.out.cell 0 _ rfl
  have c1 := HA.out.cell 1 _ rfl
  have c2 := HA.out.cell 2 _ rfl
  have c3 := HA.out.cell 3 _ rfl
  have c4 := HA.out.cell 4 _ rfl
  have cl := HA.out.lt
  cases S
  · rw [Bool.false_and] at HR
    go_wp2_with fail
    go_ret
    exact ⟨by rw [HR.out]; rfl, HK.out⟩
  rw [Bool.true_and] at HR
  have hmi := HMI.out rfl
  clear HMI
  by_cases ha : 0 ≤ k
  case neg =>
    have d0 : decide (0 ≤ k) = false := decide_eq_false ha
    rw [d0, Bool.false_and, Bool.false_and] at HR
    go_wp2_with fail
    go_ret
    exact ⟨by rw [HR.out]; rfl, HK.out⟩
  have da : decide (0 ≤ k) = true := decide_eq_true ha
  rw [da, Bool.true_and] at HR
  by_cases hb : k < (xs.length : Int)
  case neg =>
    have d0 : decide (k < (xs.length : Int)) = false := decide_eq_false hb
    rw [d0, Bool.false_and] at HR
    go_wp2_with fail
    go_ret
    exact ⟨by rw [HR.out]; rfl, HK.out⟩
  have db : decide (k < (xs.length : Int)) = true := decide_eq_true hb
  rw [db, Bool.true_and] at HR
  have hik : 0 ≤ k ∧ k < (xs.length : Int) := ⟨ha, hb⟩
  by_cases h0 : k = cm
  case pos =>
    rw [decide_eq_true h0] at HR
    subst h0
    have d0 : (k != k) = false := by simp
    go_wp2_with fail
    go_ret
    exact ⟨by rw [HR.out]; rfl, HK.out⟩
  have d0 : (k != cm) = true := by rw [bne_iff_ne]; exact h0
  rw [decide_eq_false h0] at HR
  clear h0
  by_cases h1 : cx = 0
  case neg =>
    have d1 : (cx == 0) = false := by rw [beq_eq_false_iff_ne]; exact h1
    rw [decide_eq_false h1] at HR
    go_wp2_with fail
    go_ret
    exact ⟨by rw [HR.out]; rfl, HK.out⟩
  rw [decide_eq_true h1] at HR
  subst h1
  have HR2 : Hid (R = N) := Lib.hid (by rw [HR.out]; rfl)
  obtain ⟨K, rfl⟩ := Int.eq_ofNat_of_zero_le hmi.1
  obtain ⟨J, rfl⟩ := Int.eq_ofNat_of_zero_le hik.1
  have hKl : K < xs.length := by omega
  have hJl : J < xs.length := by omega
  obtain ⟨b, off, rfl, hcell⟩ := HX.out.addr (by omega)
  obtain ⟨e0, e1, e2⟩ := hcell K hKl
  replace e2 := HK.out.later e2
  have HXI := Lib.hid ((HX.out.isIn _ (List.getElem_mem hKl)).keeps HK.out)
  have HNL := Lib.hid (HNS.out _ (List.getElem_mem hKl))
  have HNX := Lib.hid (HNA.out _ (by rw [Int.toNat_natCast]; exact List.getElem?_eq_getElem hKl))
  rw [Int.toNat_natCast] at HNX
  clear hcell HNS HNA e0 e1
  obtain ⟨x, hx⟩ : ∃ x, x = xs[K] := ⟨_, rfl⟩
  rw [← hx] at e2 HXI HNL HNX
  clear hx
  obtain ⟨na, nc, hnv, hn1, hn2, hn3⟩ := HXI.out.n.shape
  have HNR := Lib.hid hn3
  obtain ⟨dv, ev, nv, ds, es, ns⟩ := x
  simp only at hnv hn1 hn2 HNR HNL HNX e2
  subst hnv
  have hJn : J < ns.length := by rw [HNL.out]; exact hJl
  obtain ⟨nb, no', hnab, hncell, -⟩ := RowV.addr HNR.out (by omega)
  have hnj := hncell J hJn
  subst hnab
  have HNV : Hid (ns[J]? = some N) := Lib.hid (by rw [HNX.out, List.getD_eq_getElem?_getD, List.getElem?_eq_getElem hJn]; rfl)
  have hnj2 : w1.cell? ⟨nb, no' + J, none⟩ = some (.bool N) := by
    rw [hnj, List.getElem?_map, HNV.out]; rfl
  have hJc : (J : Int) < (ns.length : Int) := by omega
  clear hnj hncell HNV
  go_wp2_with fail
  go_ret
  exact ⟨by rw [HR2.out]; rfl, HK.out⟩
set_option maxRecDepth 100000 in
set_option maxHeartbeats 2000000 in
theorem asked_any (m : RMedl) (c : CS) (w : World) (hm : m.In w) : Calls Try.prog 83 #[m.val, c.val] w fun e w' => e = .returned (.int .i64 (asksE m c)) ∧ Keeps w w' := by
  have HM := Lib.hid hm
  clear hm
  have HCH : Hid (∀ w, m.In w → Calls Try.prog 29 #[m.val] w fun e w' => e = .returned (.int .i64 (cond (medlOk m) 0 70)) ∧ Keeps w w') := Lib.hid (rmcheck_any m)
  have HFI := Lib.hid (fits_any m c)
  have HE : Hid (asksE m c = cond (medlOk m) (cond (stOk m c) 0 40) 70) := Lib.hid rfl
  obtain ⟨E, hE⟩ : ∃ E, E = asksE m c := ⟨_, rfl⟩
  obtain ⟨OK, hOK⟩ : ∃ OK, OK = medlOk m := ⟨_, rfl⟩
  obtain ⟨S, hS⟩ : ∃ S, S = stOk m c := ⟨_, rfl⟩
  rw [← hOK] at HCH
  rw [← hS] at HFI
  rw [← hE, ← hOK, ← hS] at HE
  rw [← hE]
  clear hE hOK hS
  obtain ⟨ca, cc, hcv, hc1, hc2, hc3⟩ := HM.out.c.shape
  clear hc3
  have HX := Lib.hid HM.out.m
  obtain ⟨no, sl, ga, wi, dr, de, cv, cs, ma, mn, mc, xs⟩ := m
  obtain ⟨ct, cp, cm, cx, cb⟩ := c
  simp only at hcv hc1 HX
  have hlen := HX.out.len
  have hcap := HX.out.hcap
  have hmax := HX.out.hmax
  subst hlen hcv
  have HK := Lib.hid (((Keeps.refl w).alloc (.cells #[.int .i64 no, .int .i64 sl, .int .i64 ga, .int .i64 wi, .int .i64 dr, .int .i64 de, .slice ca cs.length cc, .slice ma xs.length mc] 25)).alloc (.cells #[.int .i64 ct, .int .i64 cp, .int .i64 cm, .int .i64 cx, .int .i64 cb] 27))
  have HB := Lib.hid ((Box.new w 25 #[.int .i64 no, .int .i64 sl, .int .i64 ga, .int .i64 wi, .int .i64 dr, .int .i64 de, .slice ca cs.length cc, .slice ma xs.length mc]).next (.cells #[.int .i64 ct, .int .i64 cp, .int .i64 cm, .int .i64 cx, .int .i64 cb] 27))
  have hz := Box.new (w.alloc (.cells #[.int .i64 no, .int .i64 sl, .int .i64 ga, .int .i64 wi, .int .i64 dr, .int .i64 de, .slice ca cs.length cc, .slice ma xs.length mc] 25)) 27 #[.int .i64 ct, .int .i64 cp, .int .i64 cm, .int .i64 cx, .int .i64 cb]
  rw [World.size_alloc] at hz
  have HA := Lib.hid hz
  clear hz
  show Calls Try.prog 83 #[.agg #[.int .i64 no, .int .i64 sl, .int .i64 ga, .int .i64 wi, .int .i64 dr, .int .i64 de, .slice ca cs.length cc, .slice ma xs.length mc], .agg #[.int .i64 ct, .int .i64 cp, .int .i64 cm, .int .i64 cx, .int .i64 cb]] w _
  go_enter Try.func83, Try.ntmps83
  go_wp2_with fail
  with_reducible refine (HCH.out _ (by exact HM.out.keeps HK.out)).mono ?_
  rintro e w1 ⟨rfl, hk1⟩
  replace HB := Lib.hid (HB.out.keeps hk1)
  replace HA := Lib.hid (HA.out.keeps hk1)
  replace HK := Lib.hid (HK.out.trans hk1)
  clear hk1
  have m0 := HB.out.cell 0 _ rfl
  have m1 := HB.out.cell 1 _ rfl
  have m2 := HB.out.cell 2 _ rfl
  have m3 := HB.out.cell 3 _ rfl
  have m4 := HB.out.cell 4 _ rfl
  have m5 := HB.out.cell 5 _ rfl
  have m6 := HB.out.cell 6 _ rfl
  have m7 := HB.out.cell 7 _ rfl
  have ml := HB.out.lt
  have c0 := HA.out.cell 0 _ rfl
  have c1 := HA.out.cell 1 _ rfl
  have c2 := HA.out.cell 2 _ rfl
  have c3 := HA.out.cell 3 _ rfl
  have c4 := HA.out.cell 4 _ rfl
  have cl := HA.out.lt
  cases OK
  · simp only [cond_false] at HE ⊢
    go_wp2_with fail
    go_ret
    exact ⟨by rw [HE.out]; rfl, HK.out⟩
  simp only [cond_true] at HE ⊢
  go_wp2_with fail
  with_reducible refine (HFI.out _ (by exact HM.out.keeps HK.out)).mono ?_
  rintro e w2 ⟨rfl, hk1⟩
  replace HB := Lib.hid (HB.out.keeps hk1)
  replace HA := Lib.hid (HA.out.keeps hk1)
  replace HK := Lib.hid (HK.out.trans hk1)
  clear hk1 m0 m1 m2 m3 m4 m5 m6 m7 ml c0 c1 c2 c3 c4 cl
  have m0 := HB.out.cell 0 _ rfl
  have m1 := HB.out.cell 1 _ rfl
  have m2 := HB.out.cell 2 _ rfl
  have m3 := HB.out.cell 3 _ rfl
  have m4 := HB.out.cell 4 _ rfl
  have m5 := HB.out.cell 5 _ rfl
  have m6 := HB.out.cell 6 _ rfl
  have m7 := HB.out.cell 7 _ rfl
  have ml := HB.out.lt
  have c0 := HA.out.cell 0 _ rfl
  have c1 := HA.out.cell 1 _ rfl
  have c2 := HA.out.cell 2 _ rfl
  have c3 := HA.out.cell 3 _ rfl
  have c4 := HA.out.cell 4 _ rfl
  have cl := HA.out.lt
  cases S
  · simp only [cond_false] at HE
    go_wp2_with fail
    go_ret
    exact ⟨by rw [HE.out]; rfl, HK.out⟩
  · simp only [cond_true] at HE
    go_wp2_with fail
    go_ret
    exact ⟨by rw [HE.out]; rfl, HK.out⟩
set_option maxRecDepth 100000 in
set_option maxHeartbeats 2000000 in
theorem raskX_any (m : RMedl) (c : CS) (k : Int) (w : World) (hm : m.In w) : Calls Try.prog 35 #[m.val, c.val, .int .i64 k] w fun e w' => e = .returned (.tuple #[.int .i64 (askR m c k).1, .int .i64 (askR m c k).2]) ∧ Keeps w w' := by
  have HM := Lib.hid hm
  clear hm
  have HAS := Lib.hid (asked_any m c)
  have HMY := Lib.hid (rmayX_any m c k)
  have HR : Hid (askR m c k = cond (asksB m c) (cond (decide (-1 ≤ k) && decide (k < m.xs.length)) (cond (mayR m c k) (k + 1, 0) (0, 0)) (0, 100)) (0, asksE m c)) := Lib.hid (by
    unfold askR
    cases hb : asksB m c
    · rfl
    · simp only [cond_true]
      have e : (decide (k = -1) || mIn m k) = (decide (-1 ≤ k) && decide (k < m.xs.length)) := by
        rw [Bool.eq_iff_iff]
        simp only [Bool.or_eq_true, Bool.and_eq_true, decide_eq_true_eq, mIn_iff]
        omega
      rw [e]
      cases decide (-1 ≤ k) && decide (k < m.xs.length)
      · rfl
      · simp only [cond_true]
        unfold mayR takenP
        rw [hb, Bool.true_and]
        cases hy : mayP m c k
        · cases decide (k < 0) <;> rfl
        · unfold mayP at hy
          rw [Bool.and_eq_true] at hy
          have := ((mIn_iff m k).1 hy.1).1
          rw [decide_eq_false (show ¬ k < 0 by omega)]
          rfl)
  have HE : Hid (asksB m c = true → asksE m c = 0) := Lib.hid asksB_E
  have HE2 : Hid (asksB m c = false → (asksE m c != 0) = true) := Lib.hid asksB_E2
  obtain ⟨R, hR⟩ : ∃ R, R = askR m c k := ⟨_, rfl⟩
  rw [← hR] at HR ⊢
  obtain ⟨O, hO⟩ : ∃ O, O = asksB m c := ⟨_, rfl⟩
  rw [← hO] at HR HE HE2
  obtain ⟨E, hE⟩ : ∃ E, E = asksE m c := ⟨_, rfl⟩
  rw [← hE] at HR HE HE2 HAS
  obtain ⟨Y, hY⟩ : ∃ Y, Y = mayR m c k := ⟨_, rfl⟩
  rw [← hY] at HR HMY
  clear hR hO hE hY
  obtain ⟨ca, cc, hcv, hc1, hc2, hc3⟩ := HM.out.c.shape
  clear hc3
  have HX := Lib.hid HM.out.m
  have hmax := HX.out.hmax
  obtain ⟨no, sl, ga, wi, dr, de, cv, cs, ma, mn, mc, xs⟩ := m
  obtain ⟨ct, cp, cm, cx, cb⟩ := c
  simp only at hcv hc1 HX hmax HR
  have hlen := HX.out.len
  have hcap := HX.out.hcap

  subst hlen hcv
  have HK := Lib.hid (((Keeps.refl w).alloc (.cells #[.int .i64 no, .int .i64 sl, .int .i64 ga, .int .i64 wi, .int .i64 dr, .int .i64 de, .slice ca cs.length cc, .slice ma xs.length mc] 25)).alloc (.cells #[.int .i64 ct, .int .i64 cp, .int .i64 cm, .int .i64 cx, .int .i64 cb] 27))
  have HB := Lib.hid ((Box.new w 25 #[.int .i64 no, .int .i64 sl, .int .i64 ga, .int .i64 wi, .int .i64 dr, .int .i64 de, .slice ca cs.length cc, .slice ma xs.length mc]).next (.cells #[.int .i64 ct, .int .i64 cp, .int .i64 cm, .int .i64 cx, .int .i64 cb] 27))
  have hz := Box.new (w.alloc (.cells #[.int .i64 no, .int .i64 sl, .int .i64 ga, .int .i64 wi, .int .i64 dr, .int .i64 de, .slice ca cs.length cc, .slice ma xs.length mc] 25)) 27 #[.int .i64 ct, .int .i64 cp, .int .i64 cm, .int .i64 cx, .int .i64 cb]
  rw [World.size_alloc] at hz
  have HA := Lib.hid hz
  clear hz
  show Calls Try.prog 35 #[.agg #[.int .i64 no, .int .i64 sl, .int .i64 ga, .int .i64 wi, .int .i64 dr, .int .i64 de, .slice ca cs.length cc, .slice ma xs.length mc], .agg #[.int .i64 ct, .int .i64 cp, .int .i64 cm, .int .i64 cx, .int .i64 cb], .int .i64 k] w _
  go_enter Try.func35, Try.ntmps35
  go_wp2_with fail
  with_reducible refine (HAS.out _ (by exact HM.out.keeps HK.out)).mono ?_
  rintro e w1 ⟨rfl, hk1⟩
  replace HB := Lib.hid (HB.out.keeps hk1)
  replace HA := Lib.hid (HA.out.keeps hk1)
  replace HK := Lib.hid (HK.out.trans hk1)
  clear hk1
  have m0 := HB.out.cell 0 _ rfl
  have m1 := HB.out.cell 1 _ rfl
  have m2 := HB.out.cell 2 _ rfl
  have m3 := HB.out.cell 3 _ rfl
  have m4 := HB.out.cell 4 _ rfl
  have m5 := HB.out.cell 5 _ rfl
  have m6 := HB.out.cell 6 _ rfl
  have m7 := HB.out.cell 7 _ rfl
  have ml := HB.out.lt
  have c0 := HA.out.cell 0 _ rfl
  have c1 := HA.out.cell 1 _ rfl
  have c2 := HA.out.cell 2 _ rfl
  have c3 := HA.out.cell 3 _ rfl
  have c4 := HA.out.cell 4 _ rfl
  have cl := HA.out.lt
  cases O
  · have he := HE2.out rfl
    simp only [cond_false] at HR
    go_wp2_with fail
    go_ret2
    exact ⟨by rw [HR.out]; rfl, HK.out⟩
  obtain rfl : E = 0 := HE.out rfl
  simp only [cond_true] at HR
  by_cases h0 : k < -1
  · have d0 : decide (k < -1) = true := decide_eq_true h0
    rw [decide_eq_false (show ¬ -1 ≤ k by omega), Bool.false_and] at HR
    go_wp2_with fail
    go_ret2
    exact ⟨by rw [HR.out]; rfl, HK.out⟩
  have d0 : decide (k < -1) = false := decide_eq_false h0
  rw [decide_eq_true (show -1 ≤ k by omega), Bool.true_and] at HR
  by_cases h1 : (xs.length : Int) ≤ k
  · have d1 : decide ((xs.length : Int) ≤ k) = true := decide_eq_true h1
    rw [decide_eq_false (show ¬ k < (xs.length : Int) by omega)] at HR
    go_wp2_with fail
    go_ret2
    exact ⟨by rw [HR.out]; rfl, HK.out⟩
  have d1 : decide ((xs.length : Int) ≤ k) = false := decide_eq_false h1
  rw [decide_eq_true (show k < (xs.length : Int) by omega)] at HR
  simp only [cond_true] at HR
  have hw1 : IntKind.i64.wrap (k + 1) = k + 1 := IntWalk.i64_in _ (by omega)
  go_wp2_with fail
  with_reducible refine (HMY.out _ (by exact HM.out.keeps HK.out)).mono ?_
  rintro e w2 ⟨rfl, hk1⟩
  replace HB := Lib.hid (HB.out.keeps hk1)
  replace HA := Lib.hid (HA.out.keeps hk1)
  replace HK := Lib.hid (HK.out.trans hk1)
  clear hk1 m0 m1 m2 m3 m4 m5 m6 m7 ml c0 c1 c2 c3 c4 cl
  have m0 := HB.out.cell 0 _ rfl
  have m1 := HB.out.cell 1 _ rfl
  have m2 := HB.out.cell 2 _ rfl
  have m3 := HB.out.cell 3 _ rfl
  have m4 := HB.out.cell 4 _ rfl
  have m5 := HB.out.cell 5 _ rfl
  have m6 := HB.out.cell 6 _ rfl
  have m7 := HB.out.cell 7 _ rfl
  have ml := HB.out.lt
  have c0 := HA.out.cell 0 _ rfl
  have c1 := HA.out.cell 1 _ rfl
  have c2 := HA.out.cell 2 _ rfl
  have c3 := HA.out.cell 3 _ rfl
  have c4 := HA.out.cell 4 _ rfl
  have cl := HA.out.lt
  cases Y
  · simp only [cond_false] at HR
    go_wp2_with fail
    go_ret2
    exact ⟨by rw [HR.out]; rfl, HK.out⟩
  · simp only [cond_true] at HR
    go_wp2_with fail
    go_ret2
    exact ⟨by rw [HR.out]; rfl, HK.out⟩
set_option maxRecDepth 100000 in
set_option maxHeartbeats 2000000 in
theorem rtakeX_any (m : RMedl) (c : CS) (r : Int) (w : World) (hm : m.In w) : Calls Try.prog 36 #[m.val, c.val, .int .i64 r] w fun e w' => e = .returned (.tuple #[(takeR m c r).1.val, .int .i64 (takeR m c r).2]) ∧ Keeps w w' := by
  have HM := Lib.hid hm
  clear hm
  have HAS := Lib.hid (asked_any m c)
  have HTK := Lib.hid (rmayX_any m c (r - 1))
  have HR : Hid (takeR m c r = cond (asksB m c) (cond (decide (0 ≤ r) && decide (r ≤ m.xs.length)) (cond (decide (0 < r) && mayR m c (r - 1)) ⟨c.t, c.p, c.m, r, c.b⟩ c, 0) (CS.zero, 100)) (CS.zero, asksE m c)) := Lib.hid (by
    unfold takeR mayR
    cases asksB m c <;> rfl)
  have HE : Hid (asksB m c = true → asksE m c = 0) := Lib.hid asksB_E
  have HE2 : Hid (asksB m c = false → (asksE m c != 0) = true) := Lib.hid asksB_E2
  obtain ⟨R, hR⟩ : ∃ R, R = takeR m c r := ⟨_, rfl⟩
  rw [← hR] at HR ⊢
  obtain ⟨O, hO⟩ : ∃ O, O = asksB m c := ⟨_, rfl⟩
  rw [← hO] at HR HE HE2
  obtain ⟨E, hE⟩ : ∃ E, E = asksE m c := ⟨_, rfl⟩
  rw [← hE] at HR HE HE2 HAS
  obtain ⟨Y, hY⟩ : ∃ Y, Y = mayR m c (r - 1) := ⟨_, rfl⟩
  rw [← hY] at HR HTK
  clear hR hO hE hY
  obtain ⟨ca, cc, hcv, hc1, hc2, hc3⟩ := HM.out.c.shape
  clear hc3
  have HX := Lib.hid HM.out.m
  have hmax := HX.out.hmax
  obtain ⟨no, sl, ga, wi, dr, de, cv, cs, ma, mn, mc, xs⟩ := m
  obtain ⟨ct, cp, cm, cx, cb⟩ := c
  simp only at hcv hc1 HX hmax HR
  have hlen := HX.out.len
  have hcap := HX.out.hcap

  subst hlen hcv
  have HK0 := Lib.hid (((Keeps.refl w).alloc (.cells #[.int .i64 no, .int .i64 sl, .int .i64 ga, .int .i64 wi, .int .i64 dr, .int .i64 de, .slice ca cs.length cc, .slice ma xs.length mc] 25)).alloc (.cells #[.int .i64 ct, .int .i64 cp, .int .i64 cm, .int .i64 cx, .int .i64 cb] 27))
  have HB0 := Lib.hid ((Box.new w 25 #[.int .i64 no, .int .i64 sl, .int .i64 ga, .int .i64 wi, .int .i64 dr, .int .i64 de, .slice ca cs.length cc, .slice ma xs.length mc]).next (.cells #[.int .i64 ct, .int .i64 cp, .int .i64 cm, .int .i64 cx, .int .i64 cb] 27))
  have hz := Box.new (w.alloc (.cells #[.int .i64 no, .int .i64 sl, .int .i64 ga, .int .i64 wi, .int .i64 dr, .int .i64 de, .slice ca cs.length cc, .slice ma xs.length mc] 25)) 27 #[.int .i64 ct, .int .i64 cp, .int .i64 cm, .int .i64 cx, .int .i64 cb]
  rw [World.size_alloc] at hz
  have HA0 := Lib.hid hz
  clear hz
  have HK := Lib.hid (HK0.out.alloc (.cells #[.int .i64 0, .int .i64 0, .int .i64 0, .int .i64 0, .int .i64 0] 27))
  have HB := Lib.hid (HB0.out.next (.cells #[.int .i64 0, .int .i64 0, .int .i64 0, .int .i64 0, .int .i64 0] 27))
  have HA := Lib.hid (HA0.out.next (.cells #[.int .i64 0, .int .i64 0, .int .i64 0, .int .i64 0, .int .i64 0] 27))
  have hzz := Box.new ((w.alloc (.cells #[.int .i64 no, .int .i64 sl, .int .i64 ga, .int .i64 wi, .int .i64 dr, .int .i64 de, .slice ca cs.length cc, .slice ma xs.length mc] 25)).alloc (.cells #[.int .i64 ct, .int .i64 cp, .int .i64 cm, .int .i64 cx, .int .i64 cb] 27)) 27 #[.int .i64 0, .int .i64 0, .int .i64 0, .int .i64 0, .int .i64 0]
  simp only [World.size_alloc] at hzz
  have HZ := Lib.hid hzz
  clear hzz HK0 HB0 HA0
  show Calls Try.prog 36 #[.agg #[.int .i64 no, .int .i64 sl, .int .i64 ga, .int .i64 wi, .int .i64 dr, .int .i64 de, .slice ca cs.length cc, .slice ma xs.length mc], .agg #[.int .i64 ct, .int .i64 cp, .int .i64 cm, .int .i64 cx, .int .i64 cb], .int .i64 r] w _
  go_enter Try.func36, Try.ntmps36
  go_wp2_with fail
  with_reducible refine (HAS.out _ (by exact HM.out.keeps HK.out)).mono ?_
  rintro e w1 ⟨rfl, hk1⟩
  replace HB := Lib.hid (HB.out.keeps hk1)
  replace HA := Lib.hid (HA.out.keeps hk1)
  replace HZ := Lib.hid (HZ.out.keeps hk1)
  replace HK := Lib.hid (HK.out.trans hk1)
  clear hk1
  have m0 := HB.out.cell 0 _ rfl
  have m1 := HB.out.cell 1 _ rfl
  have m2 := HB.out.cell 2 _ rfl
  have m3 := HB.out.cell 3 _ rfl
  have m4 := HB.out.cell 4 _ rfl
  have m5 := HB.out.cell 5 _ rfl
  have m6 := HB.out.cell 6 _ rfl
  have m7 := HB.out.cell 7 _ rfl
  have ml := HB.out.lt
  have c0 := HA.out.cell 0 _ rfl
  have c1 := HA.out.cell 1 _ rfl
  have c2 := HA.out.cell 2 _ rfl
  have c3 := HA.out.cell 3 _ rfl
  have c4 := HA.out.cell 4 _ rfl
  have cl := HA.out.lt
  have z0 := HZ.out.cell 0 _ rfl
  have z1 := HZ.out.cell 1 _ rfl
  have z2 := HZ.out.cell 2 _ rfl
  have z3 := HZ.out.cell 3 _ rfl
  have z4 := HZ.out.cell 4 _ rfl
  have zl := HZ.out.lt
  have zf := HZ.out.frozen
  have cf := HA.out.frozen
  cases O
  · have he := HE2.out rfl
    simp only [cond_false] at HR
    go_wp2_with fail
    refine bodyPost_ret (v := .tuple #[.agg #[.int .i64 0, .int .i64 0, .int .i64 0, .int .i64 0, .int .i64 0], .int .i64 E]) (by simp [results, Try.results36, go_sem, *]) rfl ⟨by rw [HR.out]; rfl, ?_⟩
    repeat (first | with_reducible exact HK.out | with_reducible refine Keeps.setCell ?_ (by simp <;> omega) _ | with_reducible refine Keeps.alloc ?_ _)
  obtain rfl : E = 0 := HE.out rfl
  simp only [cond_true] at HR
  by_cases h0 : r < 0
  · have d0 : decide (r < 0) = true := decide_eq_true h0
    have HR2 : Hid (R = (CS.zero, 100)) := Lib.hid (by rw [HR.out, decide_eq_false (show ¬ 0 ≤ r by omega)]; rfl)
    go_wp2_with fail
    refine bodyPost_ret (v := .tuple #[.agg #[.int .i64 0, .int .i64 0, .int .i64 0, .int .i64 0, .int .i64 0], .int .i64 100]) (by simp [results, Try.results36, go_sem, *]) rfl ⟨(by rw [HR2.out] <;> rfl), ?_⟩
    repeat (first | with_reducible exact HK.out | with_reducible refine Keeps.setCell ?_ (by simp <;> omega) _ | with_reducible refine Keeps.alloc ?_ _)
  have d0 : decide (r < 0) = false := decide_eq_false h0
  by_cases h1 : (xs.length : Int) < r
  · have d1 : decide ((xs.length : Int) < r) = true := decide_eq_true h1
    have HR2 : Hid (R = (CS.zero, 100)) := Lib.hid (by rw [HR.out, decide_eq_false (show ¬ r ≤ (xs.length : Int) by omega), Bool.and_false]; rfl)
    go_wp2_with fail
    refine bodyPost_ret (v := .tuple #[.agg #[.int .i64 0, .int .i64 0, .int .i64 0, .int .i64 0, .int .i64 0], .int .i64 100]) (by simp [results, Try.results36, go_sem, *]) rfl ⟨(by rw [HR2.out] <;> rfl), ?_⟩
    repeat (first | with_reducible exact HK.out | with_reducible refine Keeps.setCell ?_ (by simp <;> omega) _ | with_reducible refine Keeps.alloc ?_ _)
  have d1 : decide ((xs.length : Int) < r) = false := decide_eq_false h1
  rw [decide_eq_true (show 0 ≤ r by omega), decide_eq_true (show r ≤ (xs.length : Int) by omega)] at HR
  simp only [Bool.and_true, cond_true] at HR
  by_cases h2 : 0 < r
  case neg =>
    have d2 : decide (0 < r) = false := decide_eq_false h2
    have HR2 : Hid (R = (⟨ct, cp, cm, cx, cb⟩, 0)) := Lib.hid (by rw [HR.out, d2]; rfl)
    go_wp2_with fail
    refine bodyPost_ret (v := .tuple #[.agg #[.int .i64 ct, .int .i64 cp, .int .i64 cm, .int .i64 cx, .int .i64 cb], .int .i64 0]) (by simp [results, Try.results36, go_sem, *]) rfl ⟨(by rw [HR2.out] <;> rfl), ?_⟩
    repeat (first | with_reducible exact HK.out | with_reducible refine Keeps.setCell ?_ (by simp <;> omega) _ | with_reducible refine Keeps.alloc ?_ _)
  have d2 : decide (0 < r) = true := decide_eq_true h2
  have hw1 : IntKind.i64.wrap (r - 1) = r - 1 := IntWalk.i64_in _ (by omega)
  rw [d2, Bool.true_and] at HR
  go_wp2_with fail
  with_reducible refine (HTK.out _ (by exact HM.out.keeps HK.out)).mono ?_
  rintro e w2 ⟨rfl, hk1⟩
  clear z0 z1 z2 z3 z4 zl zf cf
  replace HB := Lib.hid (HB.out.keeps hk1)
  replace HA := Lib.hid (HA.out.keeps hk1)
  replace HZ := Lib.hid (HZ.out.keeps hk1)
  replace HK := Lib.hid (HK.out.trans hk1)
  clear hk1 m0 m1 m2 m3 m4 m5 m6 m7 ml c0 c1 c2 c3 c4 cl
  have m0 := HB.out.cell 0 _ rfl
  have m1 := HB.out.cell 1 _ rfl
  have m2 := HB.out.cell 2 _ rfl
  have m3 := HB.out.cell 3 _ rfl
  have m4 := HB.out.cell 4 _ rfl
  have m5 := HB.out.cell 5 _ rfl
  have m6 := HB.out.cell 6 _ rfl
  have m7 := HB.out.cell 7 _ rfl
  have ml := HB.out.lt
  have c0 := HA.out.cell 0 _ rfl
  have c1 := HA.out.cell 1 _ rfl
  have c2 := HA.out.cell 2 _ rfl
  have c3 := HA.out.cell 3 _ rfl
  have c4 := HA.out.cell 4 _ rfl
  have cl := HA.out.lt
  have z0 := HZ.out.cell 0 _ rfl
  have z1 := HZ.out.cell 1 _ rfl
  have z2 := HZ.out.cell 2 _ rfl
  have z3 := HZ.out.cell 3 _ rfl
  have z4 := HZ.out.cell 4 _ rfl
  have zl := HZ.out.lt
  have zf := HZ.out.frozen
  have cf := HA.out.frozen
  cases Y
  · have HR2 : Hid (R = (⟨ct, cp, cm, cx, cb⟩, 0)) := Lib.hid (by rw [HR.out]; rfl)
    go_wp2_with fail
    refine bodyPost_ret (v := .tuple #[.agg #[.int .i64 ct, .int .i64 cp, .int .i64 cm, .int .i64 cx, .int .i64 cb], .int .i64 0]) (by simp [results, Try.results36, go_sem, *]) rfl ⟨(by rw [HR2.out] <;> rfl), ?_⟩
    repeat (first | with_reducible exact HK.out | with_reducible refine Keeps.setCell ?_ (by simp <;> omega) _ | with_reducible refine Keeps.alloc ?_ _)
  · have HR2 : Hid (R = (⟨ct, cp, cm, r, cb⟩, 0)) := Lib.hid (by rw [HR.out]; rfl)
    go_wp2_with fail
    refine bodyPost_ret (v := .tuple #[.agg #[.int .i64 ct, .int .i64 cp, .int .i64 cm, .int .i64 r, .int .i64 cb], .int .i64 0]) (by simp [results, Try.results36, go_sem, *]) rfl ⟨(by rw [HR2.out] <;> rfl), ?_⟩
    repeat (first | with_reducible exact HK.out | with_reducible refine Keeps.setCell ?_ (by simp <;> omega) _ | with_reducible refine Keeps.alloc ?_ _)
set_option maxRecDepth 100000 in
set_option maxHeartbeats 2000000 in
theorem rnexts_any (m : RMedl) (c : CS) (w : World) (hm : m.In w) : Calls Try.prog 39 #[m.val, c.val] w fun e w' => ∃ v, e = .returned v ∧ Own w' (w.heap.size + 2) 3 v (i64s (nextsP m c)) ∧ Keeps w w' := by
  have HM := Lib.hid hm
  clear hm
  have HMY := Lib.hid (fun k : Nat => rmayX_any m c (k : Int))
  have HN : Hid (nextsP m c = (List.range m.xs.length).filter fun j : Nat => mayR m c (j : Int)) := Lib.hid (by
    unfold nextsP mayR nextsTo
    cases asksB m c
    · simp
    · simp only [cond_true, Bool.true_and])
  have HY4 : Hid (∀ k, mayR m c k = true → m.xs.length ≤ 4) := Lib.hid (fun k h => by
    unfold mayR asksB at h
    simp only [Bool.and_eq_true] at h
    exact (medlOk_cnt h.1.1).2.2.2)
  obtain ⟨NL, hNL⟩ : ∃ NL, NL = nextsP m c := ⟨_, rfl⟩
  obtain ⟨Y, hY⟩ : ∃ Y : Int → Bool, Y = mayR m c := ⟨_, rfl⟩
  have HMY2 : Hid (∀ (k : Nat) w, m.In w → Calls Try.prog 38 #[m.val, c.val, .int .i64 k] w fun e w' => e = .returned (.bool (Y k)) ∧ Keeps w w') := Lib.hid (by rw [hY]; exact HMY.out)
  rw [← hNL, ← hY] at HN
  rw [← hY] at HY4
  rw [← hNL]
  clear hNL hY HMY
  obtain ⟨ca, cc, hcv, hc1, hc2, hc3⟩ := HM.out.c.shape
  clear hc3
  have HX := Lib.hid HM.out.m
  obtain ⟨no, sl, ga, wi, dr, de, cv, cs, ma, mn, mc, xs⟩ := m
  obtain ⟨ct, cp, cm, cx, cb⟩ := c
  simp only at hcv hc1 HX HN HY4
  have hlen := HX.out.len
  have hcap := HX.out.hcap
  have hmax := HX.out.hmax
  subst hlen hcv
  have HK := Lib.hid (((Keeps.refl w).alloc (.cells #[.int .i64 no, .int .i64 sl, .int .i64 ga, .int .i64 wi, .int .i64 dr, .int .i64 de, .slice ca cs.length cc, .slice ma xs.length mc] 25)).alloc (.cells #[.int .i64 ct, .int .i64 cp, .int .i64 cm, .int .i64 cx, .int .i64 cb] 27))
  have HB := Lib.hid ((Box.new w 25 #[.int .i64 no, .int .i64 sl, .int .i64 ga, .int .i64 wi, .int .i64 dr, .int .i64 de, .slice ca cs.length cc, .slice ma xs.length mc]).next (.cells #[.int .i64 ct, .int .i64 cp, .int .i64 cm, .int .i64 cx, .int .i64 cb] 27))
  have hz := Box.new (w.alloc (.cells #[.int .i64 no, .int .i64 sl, .int .i64 ga, .int .i64 wi, .int .i64 dr, .int .i64 de, .slice ca cs.length cc, .slice ma xs.length mc] 25)) 27 #[.int .i64 ct, .int .i64 cp, .int .i64 cm, .int .i64 cx, .int .i64 cb]
  rw [World.size_alloc] at hz
  have HA := Lib.hid hz
  clear hz
  show Calls Try.prog 39 #[.agg #[.int .i64 no, .int .i64 sl, .int .i64 ga, .int .i64 wi, .int .i64 dr, .int .i64 de, .slice ca cs.length cc, .slice ma xs.length mc], .agg #[.int .i64 ct, .int .i64 cp, .int .i64 cm, .int .i64 cx, .int .i64 cb]] w _
  go_enter Try.func39, Try.ntmps39
  go_wp2_with fail
  go_loopw [5, 6] (fun v i wr => ∃ k : Nat, k ≤ xs.length ∧ i = .int .i64 k ∧ Hid (Own wr (w.heap.size + 2) 3 v (i64s ((List.range k).filter fun j : Nat => Y (j : Int)))) ∧ Hid (Box wr w.heap.size 25 #[.int .i64 no, .int .i64 sl, .int .i64 ga, .int .i64 wi, .int .i64 dr, .int .i64 de, .slice ca cs.length cc, .slice ma xs.length mc]) ∧ Hid (Box wr (w.heap.size + 1) 27 #[.int .i64 ct, .int .i64 cp, .int .i64 cm, .int .i64 cx, .int .i64 cb]) ∧ Hid (Keeps w wr)) (fun _ i _ => xs.length - (intOf i).toNat)
  case atStart => exact ⟨0, Nat.zero_le _, rfl, Own.nil _ _ _, HB, HA, HK⟩
  case round =>
    clear HB HA HK
    obtain ⟨k, hk, rfl, HO, HB, HA, HK⟩ := hrel
    have m0 := HB.out.cell 0 _ rfl
    have m1 := HB.out.cell 1 _ rfl
    have m2 := HB.out.cell 2 _ rfl
    have m3 := HB.out.cell 3 _ rfl
    have m4 := HB.out.cell 4 _ rfl
    have m5 := HB.out.cell 5 _ rfl
    have m6 := HB.out.cell 6 _ rfl
    have m7 := HB.out.cell 7 _ rfl
    have ml := HB.out.lt
    have c0 := HA.out.cell 0 _ rfl
    have c1 := HA.out.cell 1 _ rfl
    have c2 := HA.out.cell 2 _ rfl
    have c3 := HA.out.cell 3 _ rfl
    have c4 := HA.out.cell 4 _ rfl
    have cl := HA.out.lt
    by_cases hlt : k < xs.length
    case neg =>
      obtain rfl : k = xs.length := by omega
      go_wp2_with fail
      go_ret
      exact ⟨_, rfl, by rw [HN.out]; exact HO.out, HK.out⟩
    have hw63 : k < 9223372036854775807 := by omega
    have HSU : Hid ((List.range (k + 1)).filter (fun j : Nat => Y (j : Int)) = (List.range k).filter (fun j : Nat => Y (j : Int)) ++ (if Y (k : Int) then [k] else [])) := Lib.hid (by
      rw [List.range_succ, List.filter_append]
      cases h : Y (k : Int) <;> simp [h])
    have hlen : ((List.range k).filter fun j : Nat => Y (j : Int)).length ≤ k := by
      have := List.length_filter_le (fun j : Nat => Y (j : Int)) (List.range k)
      rwa [List.length_range] at this
    go_wp2_with fail
    with_reducible refine (HMY2.out k _ (by exact HM.out.keeps HK.out)).mono ?_
    rintro e w1 ⟨rfl, hk1⟩
    replace HO := Lib.hid (HO.out.keeps hk1)
    replace HB := Lib.hid (HB.out.keeps hk1)
    replace HA := Lib.hid (HA.out.keeps hk1)
    replace HK := Lib.hid (HK.out.trans hk1)
    clear hk1 m0 m1 m2 m3 m4 m5 m6 m7 ml c0 c1 c2 c3 c4 cl
    have m0 := HB.out.cell 0 _ rfl
    have m1 := HB.out.cell 1 _ rfl
    have m2 := HB.out.cell 2 _ rfl
    have m3 := HB.out.cell 3 _ rfl
    have m4 := HB.out.cell 4 _ rfl
    have m5 := HB.out.cell 5 _ rfl
    have m6 := HB.out.cell 6 _ rfl
    have m7 := HB.out.cell 7 _ rfl
    have ml := HB.out.lt
    have c0 := HA.out.cell 0 _ rfl
    have c1 := HA.out.cell 1 _ rfl
    have c2 := HA.out.cell 2 _ rfl
    have c3 := HA.out.cell 3 _ rfl
    have c4 := HA.out.cell 4 _ rfl
    have cl := HA.out.lt
    obtain ⟨yk, hyk⟩ : ∃ yk, yk = Y (k : Int) := ⟨_, rfl⟩
    have HYT : Hid (yk = true → xs.length ≤ 4) := Lib.hid (fun h => HY4.out k (by rw [← hyk]; exact h))
    rw [← hyk] at HSU ⊢
    clear hyk
    cases yk
    · have HO2 : Hid (Own w1 (w.heap.size + 2) 3 _ (i64s ((List.range (k + 1)).filter fun j : Nat => Y (j : Int)))) := Lib.hid (by rw [HSU.out]; simpa using HO.out)
      go_wp2_with fail
      go_roundw
      case rel => exact ⟨k + 1, by omega, by go_num, HO2, HB, HA, HK⟩
      case measure => simp [intOf]; omega
    have hal := HA.out.lt
    have hk4 := HYT.out rfl
    go_wp2_with (refine wpList_push rfl (.tmp 18) (.tmp 20) 34 rfl 3 8 (.int .i64 0) Try.underlying34 info_int4 rfl (w.heap.size + 2) _ _ rfl (by exact HO.out.keeps ((Keeps.refl _).alloc _)) _ _ rfl (by exact World.cell?_alloc_new _ _ _ _) rfl ?h1 ?h2 ?h3 ?hmain)
    case h1 => simp; omega
    case h2 => simp; omega
    case h3 => simp; omega
    case hmain =>
      intro v2 w3 hown hbel
      have hk3 : Below (w.heap.size + 2) w1 w3 := (((Below.refl _ w1).alloc (by omega) _)).trans hbel
      have HB3 := Lib.hid (Box.below HB.out hk3 (by omega))
      have HA3 := Lib.hid (Box.below HA.out hk3 (by omega))
      have HK3 : Hid (Keeps w w3) := (HK.out.alloc _).below hbel (by omega)
      have HO3 : Hid (Own w3 (w.heap.size + 2) 3 v2 (i64s ((List.range (k + 1)).filter fun j : Nat => Y (j : Int)))) := by
        refine Lib.hid ?_; rw [HSU.out]; simpa [i64s] using hown
      clear hown hbel hk3 HO HB HA HK hal
      go_wp2_with fail
      go_roundw
      case rel => exact ⟨k + 1, by omega, by go_num, HO3, HB3, HA3, HK3⟩
      case measure => simp [intOf]; omega
end Go.Proofs.Ytmjodcackmjllaa
