/- Layer 10, 1: isMode, asks, may. -/
import Derived.Test.YtmjodcackmjllaaD0
namespace Go.Proofs.Ytmjodcackmjllaa
open Go.RowKit Go.Shelf
set_option linter.unusedVariables false
set_option linter.unusedSimpArgs false
set_option maxRecDepth 100000 in
set_option maxHeartbeats 1000000 in
theorem isModeX_any (m : RMedl) (k : Int) (w : World) (hm : m.In w) : Calls Try.prog 55 #[m.val, .int .i64 k] w fun e w' => e = .returned (.bool (mIn m k)) ∧ Keeps w w' := by
  have HM := Lib.hid hm
  clear hm
  have HI : Hid (mIn m k = (decide (0 ≤ k) && decide (k < m.xs.length))) := Lib.hid rfl
  obtain ⟨R, hR⟩ : ∃ R, R = mIn m k := ⟨_, rfl⟩
  rw [← hR] at HI ⊢
  clear hR
  obtain ⟨ca, cc, hcv, hc1, hc2, hc3⟩ := HM.out.c.shape
  clear hc3
  have HX := Lib.hid HM.out.m
  obtain ⟨no, sl, ga, wi, dr, de, cv, cs, ma, mn, mc, xs⟩ := m
  simp only at hcv hc1 HX HI
  have hlen := HX.out.len
  have hcap := HX.out.hcap
  have hmax := HX.out.hmax
  subst hlen hcv
  have HK := Lib.hid ((Keeps.refl w).alloc (.cells #[.int .i64 no, .int .i64 sl, .int .i64 ga, .int .i64 wi, .int .i64 dr, .int .i64 de, .slice ca cs.length cc, .slice ma xs.length mc] 25))
  have HB := Lib.hid (Box.new w 25 #[.int .i64 no, .int .i64 sl, .int .i64 ga, .int .i64 wi, .int .i64 dr, .int .i64 de, .slice ca cs.length cc, .slice ma xs.length mc])
  have m0 := HB.out.cell 0 _ rfl
  have m1 := HB.out.cell 1 _ rfl
  have m2 := HB.out.cell 2 _ rfl
  have m3 := HB.out.cell 3 _ rfl
  have m4 := HB.out.cell 4 _ rfl
  have m5 := HB.out.cell 5 _ rfl
  have m6 := HB.out.cell 6 _ rfl
  have m7 := HB.out.cell 7 _ rfl
  have ml := HB.out.lt
  show Calls Try.prog 55 #[.agg #[.int .i64 no, .int .i64 sl, .int .i64 ga, .int .i64 wi, .int .i64 dr, .int .i64 de, .slice ca cs.length cc, .slice ma xs.length mc], .int .i64 k] w _
  by_cases t0 : 0 ≤ k
  · have d0 : decide (0 ≤ k) = true := decide_eq_true t0
    rw [d0, Bool.true_and] at HI
    by_cases t1 : k < (xs.length : Int)
    · have d1 : decide (k < (xs.length : Int)) = true := decide_eq_true t1
      rw [d1] at HI
      go_enter Try.func55, Try.ntmps55
      go_wp2_with fail
      go_ret
      exact ⟨by rw [HI.out]; rfl, HK.out⟩
    · have d1 : decide (k < (xs.length : Int)) = false := decide_eq_false t1
      rw [d1] at HI
      go_enter Try.func55, Try.ntmps55
      go_wp2_with fail
      go_ret
      exact ⟨by rw [HI.out]; rfl, HK.out⟩
  · have d0 : decide (0 ≤ k) = false := decide_eq_false t0
    rw [d0, Bool.false_and] at HI
    go_enter Try.func55, Try.ntmps55
    go_wp2_with fail
    go_ret
    exact ⟨by rw [HI.out]; rfl, HK.out⟩
set_option maxRecDepth 100000 in
set_option maxHeartbeats 2000000 in
theorem asks_any (m : RMedl) (c : CS) (w : World) (hm : m.In w) : Calls Try.prog 54 #[m.val, c.val] w fun e w' => e = .returned (.int .i64 (asksE m c)) ∧ Keeps w w' := by
  have HM := Lib.hid hm
  clear hm
  have HCH : Hid (∀ w, m.In w → Calls Try.prog 21 #[m.val] w fun e w' => e = .returned (.int .i64 (cond (medlOk m) 0 70)) ∧ Keeps w w') := Lib.hid (mcheck_any m)
  have HCC := Lib.hid (ccheck_any c m.nodes)
  have HIM := Lib.hid (isModeX_any m c.m)
  have HE : Hid (asksE m c = cond (medlOk m) (cond (stOk m c) 0 40) 70) := Lib.hid rfl
  have HST : Hid (stOk m c = (decide (csErr c m.nodes = 0) && (mIn m c.m && decide (c.x ≤ m.xs.length)))) := Lib.hid rfl
  obtain ⟨E, hE⟩ : ∃ E, E = asksE m c := ⟨_, rfl⟩
  obtain ⟨A, hA⟩ : ∃ A, A = medlOk m := ⟨_, rfl⟩
  obtain ⟨S, hS⟩ : ∃ S, S = stOk m c := ⟨_, rfl⟩
  obtain ⟨D, hD⟩ : ∃ D, D = csErr c m.nodes := ⟨_, rfl⟩
  obtain ⟨I, hI⟩ : ∃ I, I = mIn m c.m := ⟨_, rfl⟩
  rw [← hA] at HCH
  rw [← hD] at HCC
  rw [← hI] at HIM
  rw [← hS, ← hD, ← hI] at HST
  rw [← hE, ← hA, ← hS] at HE
  rw [← hE]
  clear hE hA hS hD hI
  obtain ⟨ca, cc, hcv, hc1, hc2, hc3⟩ := HM.out.c.shape
  clear hc3
  have HX := Lib.hid HM.out.m
  obtain ⟨no, sl, ga, wi, dr, de, cv, cs, ma, mn, mc, xs⟩ := m
  obtain ⟨ct, cp, cm, cx, cb⟩ := c
  simp only at hcv hc1 HX HCC HIM HST
  have hlen := HX.out.len
  have hcap := HX.out.hcap
  have hmax := HX.out.hmax
  subst hlen hcv
  have HK := Lib.hid (((Keeps.refl w).alloc (.cells #[.int .i64 no, .int .i64 sl, .int .i64 ga, .int .i64 wi, .int .i64 dr, .int .i64 de, .slice ca cs.length cc, .slice ma xs.length mc] 25)).alloc (.cells #[.int .i64 ct, .int .i64 cp, .int .i64 cm, .int .i64 cx, .int .i64 cb] 27))
  have HB := Lib.hid ((Box.new w 25 #[.int .i64 no, .int .i64 sl, .int .i64 ga, .int .i64 wi, .int .i64 dr, .int .i64 de, .slice ca cs.length cc, .slice ma xs.length mc]).next (.cells #[.int .i64 ct, .int .i64 cp, .int .i64 cm, .int .i64 cx, .int .i64 cb] 27))
  have hz := Box.new (w.alloc (.cells #[.int .i64 no, .int .i64 sl, .int .i64 ga, .int .i64 wi, .int .i64 dr, .int .i64 de, .slice ca cs.length cc, .slice ma xs.length mc] 25)) 27 #[.int .i64 ct, .int .i64 cp, .int .i64 cm, .int .i64 cx, .int .i64 cb]
  rw [World.size_alloc] at hz
  have HA := Lib.hid hz
  clear hz
  show Calls Try.prog 54 #[.agg #[.int .i64 no, .int .i64 sl, .int .i64 ga, .int .i64 wi, .int .i64 dr, .int .i64 de, .slice ca cs.length cc, .slice ma xs.length mc], .agg #[.int .i64 ct, .int .i64 cp, .int .i64 cm, .int .i64 cx, .int .i64 cb]] w _
  go_enter Try.func54, Try.ntmps54
  go_wp2_with fail
  with_reducible refine (HCH.out _ (by exact HM.out.keeps HK.out)).mono ?_
  rintro e w1 ⟨rfl, hk1⟩
  replace HB := Lib.hid (HB.out.keeps hk1)
  replace HA := Lib.hid (HA.out.keeps hk1)
  replace HK := Lib.hid (HK.out.trans hk1)
  clear hk1
  have m0 := HB.out.cell 0 _ rfl
  have m1 := HB.out.cell 1 _ rfl
  have m2 := HB.out.cell 2 _ rfl
  have m3 := HB.out.cell 3 _ rfl
  have m4 := HB.out.cell 4 _ rfl
  have m5 := HB.out.cell 5 _ rfl
  have m6 := HB.out.cell 6 _ rfl
  have m7 := HB.out.cell 7 _ rfl
  have ml := HB.out.lt
  have c0 := HA.out.cell 0 _ rfl
  have c1 := HA.out.cell 1 _ rfl
  have c2 := HA.out.cell 2 _ rfl
  have c3 := HA.out.cell 3 _ rfl
  have c4 := HA.out.cell 4 _ rfl
  have cl := HA.out.lt
  cases A
  · simp only [cond_false] at HE ⊢
    go_wp2_with fail
    go_ret
    exact ⟨by rw [HE.out]; rfl, HK.out⟩
  simp only [cond_true] at HE ⊢
  go_wp2_with fail
  with_reducible refine (HCC.out _).mono ?_
  rintro e w2 ⟨rfl, hk1⟩
  replace HB := Lib.hid (HB.out.keeps hk1)
  replace HA := Lib.hid (HA.out.keeps hk1)
  replace HK := Lib.hid (HK.out.trans hk1)
  clear hk1 m0 m1 m2 m3 m4 m5 m6 m7 ml c0 c1 c2 c3 c4 cl
  have m0 := HB.out.cell 0 _ rfl
  have m1 := HB.out.cell 1 _ rfl
  have m2 := HB.out.cell 2 _ rfl
  have m3 := HB.out.cell 3 _ rfl
  have m4 := HB.out.cell 4 _ rfl
  have m5 := HB.out.cell 5 _ rfl
  have m6 := HB.out.cell 6 _ rfl
  have m7 := HB.out.cell 7 _ rfl
  have ml := HB.out.lt
  have c0 := HA.out.cell 0 _ rfl
  have c1 := HA.out.cell 1 _ rfl
  have c2 := HA.out.cell 2 _ rfl
  have c3 := HA.out.cell 3 _ rfl
  have c4 := HA.out.cell 4 _ rfl
  have cl := HA.out.lt
  by_cases h0 : D = 0
  case neg =>
    have d0 : (D != 0) = true := by rw [bne_iff_ne]; exact h0
    rw [decide_eq_false h0, Bool.false_and] at HST
    obtain rfl : S = false := HST.out
    go_wp2_with fail
    go_ret
    exact ⟨by rw [HE.out]; rfl, HK.out⟩
  subst h0
  go_wp2_with fail
  with_reducible refine (HIM.out _ (by exact HM.out.keeps HK.out)).mono ?_
  rintro e w3 ⟨rfl, hk1⟩
  replace HB := Lib.hid (HB.out.keeps hk1)
  replace HA := Lib.hid (HA.out.keeps hk1)
  replace HK := Lib.hid (HK.out.trans hk1)
  clear hk1 m0 m1 m2 m3 m4 m5 m6 m7 ml c0 c1 c2 c3 c4 cl
  have m0 := HB.out.cell 0 _ rfl
  have m1 := HB.out.cell 1 _ rfl
  have m2 := HB.out.cell 2 _ rfl
  have m3 := HB.out.cell 3 _ rfl
  have m4 := HB.out.cell 4 _ rfl
  have m5 := HB.out.cell 5 _ rfl
  have m6 := HB.out.cell 6 _ rfl
  have m7 := HB.out.cell 7 _ rfl
  have ml := HB.out.lt
  have c0 := HA.out.cell 0 _ rfl
  have c1 := HA.out.cell 1 _ rfl
  have c2 := HA.out.cell 2 _ rfl
  have c3 := HA.out.cell 3 _ rfl
  have c4 := HA.out.cell 4 _ rfl
  have cl := HA.out.lt
  cases I
  · rw [Bool.false_and, Bool.and_false] at HST
    obtain rfl : S = false := HST.out
    go_wp2_with fail
    go_ret
    exact ⟨by rw [HE.out]; rfl, HK.out⟩
  by_cases h1 : cx ≤ (xs.length : Int)
  · have d1 : decide ((xs.length : Int) < cx) = false := decide_eq_false (by omega)
    rw [decide_eq_true h1] at HST
    obtain rfl : S = true := HST.out
    go_wp2_with fail
    go_ret
    exact ⟨by rw [HE.out]; rfl, HK.out⟩
  · have d1 : decide ((xs.length : Int) < cx) = true := decide_eq_true (by omega)
    rw [decide_eq_false h1] at HST
    obtain rfl : S = false := HST.out
    go_wp2_with fail
    go_ret
    exact ⟨by rw [HE.out]; rfl, HK.out⟩
set_option maxRecDepth 100000 in
set_option maxHeartbeats 2000000 in
theorem may_any (m : RMedl) (c : CS) (k : Int) (w : World) (hm : m.In w) (hok : asksB m c = true) : Calls Try.prog 58 #[m.val, c.val, .int .i64 k] w fun e w' => e = .returned (.bool (mayP m c k)) ∧ Keeps w w' := by
  have HM := Lib.hid hm
  clear hm
  have hab : medlOk m = true ∧ stOk m c = true := by unfold asksB at hok; rw [Bool.and_eq_true] at hok; exact hok
  have hmi := (mIn_iff m c.m).1 ((stOk_iff m c).1 hab.2).2.1
  have HNS := Lib.hid (medlOk_ns hab.1)
  have HIM := Lib.hid (isModeX_any m k)
  have HIK := Lib.hid (mIn_iff m k)
  have HR : Hid (mayP m c k = (mIn m k && (!decide (k = c.m) && (decide (c.x = 0) && nextAt m c.m k)))) := Lib.hid rfl
  have HNA : Hid (∀ x, m.xs[c.m.toNat]? = some x → nextAt m c.m k = x.ns.getD k.toNat false) := Lib.hid (fun x hx => by unfold nextAt; rw [hx])
  obtain ⟨R, hR⟩ : ∃ R, R = mayP m c k := ⟨_, rfl⟩
  obtain ⟨I, hI⟩ : ∃ I, I = mIn m k := ⟨_, rfl⟩
  obtain ⟨N, hN⟩ : ∃ N, N = nextAt m c.m k := ⟨_, rfl⟩
  rw [← hI] at HIM HIK
  rw [← hR, ← hI, ← hN] at HR
  rw [← hN] at HNA
  rw [← hR]
  clear hR hI hN hab hok
  obtain ⟨ca, cc, hcv, hc1, hc2, hc3⟩ := HM.out.c.shape
  clear hc3
  have HX := Lib.hid HM.out.m
  obtain ⟨no, sl, ga, wi, dr, de, cv, cs, ma, mn, mc, xs⟩ := m
  obtain ⟨ct, cp, cm, cx, cb⟩ := c
  simp only at hcv hc1 HX HR HNA HNS hmi HIK
  have hlen := HX.out.len
  have hcap := HX.out.hcap
  have hmax := HX.out.hmax
  subst hlen hcv
  have HK := Lib.hid (((Keeps.refl w).alloc (.cells #[.int .i64 no, .int .i64 sl, .int .i64 ga, .int .i64 wi, .int .i64 dr, .int .i64 de, .slice ca cs.length cc, .slice ma xs.length mc] 25)).alloc (.cells #[.int .i64 ct, .int .i64 cp, .int .i64 cm, .int .i64 cx, .int .i64 cb] 27))
  have HB := Lib.hid ((Box.new w 25 #[.int .i64 no, .int .i64 sl, .int .i64 ga, .int .i64 wi, .int .i64 dr, .int .i64 de, .slice ca cs.length cc, .slice ma xs.length mc]).next (.cells #[.int .i64 ct, .int .i64 cp, .int .i64 cm, .int .i64 cx, .int .i64 cb] 27))
  have hz := Box.new (w.alloc (.cells #[.int .i64 no, .int .i64 sl, .int .i64 ga, .int .i64 wi, .int .i64 dr, .int .i64 de, .slice ca cs.length cc, .slice ma xs.length mc] 25)) 27 #[.int .i64 ct, .int .i64 cp, .int .i64 cm, .int .i64 cx, .int .i64 cb]
  rw [World.size_alloc] at hz
  have HA := Lib.hid hz
  clear hz
  show Calls Try.prog 58 #[.agg #[.int .i64 no, .int .i64 sl, .int .i64 ga, .int .i64 wi, .int .i64 dr, .int .i64 de, .slice ca cs.length cc, .slice ma xs.length mc], .agg #[.int .i64 ct, .int .i64 cp, .int .i64 cm, .int .i64 cx, .int .i64 cb], .int .i64 k] w _
  go_enter Try.func58, Try.ntmps58
  go_wp2_with fail
  with_reducible refine (HIM.out _ (by exact HM.out.keeps HK.out)).mono ?_
  rintro e w1 ⟨rfl, hk1⟩
  replace HB := Lib.hid (HB.out.keeps hk1)
  replace HA := Lib.hid (HA.out.keeps hk1)
  replace HK := Lib.hid (HK.out.trans hk1)
  clear hk1
  have m0 := HB.out.cell 0 _ rfl
  have m1 := HB.out.cell 1 _ rfl
  have m2 := HB.out.cell 2 _ rfl
  have m3 := HB.out.cell 3 _ rfl
  have m4 := HB.out.cell 4 _ rfl
  have m5 := HB.out.cell 5 _ rfl
  have m6 := HB.out.cell 6 _ rfl
  have m7 := HB.out.cell 7 _ rfl
  have ml := HB.out.lt
  have c0 := HA.out.cell 0 _ rfl
  have c1 := HA.out.cell 1 _ rfl
  have c2 := HA.out.cell 2 _ rfl
  have c3 := HA.out.cell 3 _ rfl
  have c4 := HA.out.cell 4 _ rfl
  have cl := HA.out.lt
  cases I
  · rw [Bool.false_and] at HR
    go_wp2_with fail
    go_ret
    exact ⟨by rw [HR.out]; rfl, HK.out⟩
  rw [Bool.true_and] at HR
  have hik := HIK.out.1 rfl
  clear HIK
  by_cases h0 : k = cm
  case pos =>
    rw [decide_eq_true h0] at HR
    subst h0
    have d0 : (k != k) = false := by simp
    go_wp2_with fail
    go_ret
    exact ⟨by rw [HR.out]; rfl, HK.out⟩
  have d0 : (k != cm) = true := by rw [bne_iff_ne]; exact h0
  rw [decide_eq_false h0] at HR
  clear h0
  by_cases h1 : cx = 0
  case neg =>
    have d1 : (cx == 0) = false := by rw [beq_eq_false_iff_ne]; exact h1
    rw [decide_eq_false h1] at HR
    go_wp2_with fail
    go_ret
    exact ⟨by rw [HR.out]; rfl, HK.out⟩
  rw [decide_eq_true h1] at HR
  subst h1
  have HR2 : Hid (R = N) := Lib.hid (by rw [HR.out]; rfl)
  obtain ⟨K, rfl⟩ := Int.eq_ofNat_of_zero_le hmi.1
  obtain ⟨J, rfl⟩ := Int.eq_ofNat_of_zero_le hik.1
  have hKl : K < xs.length := by omega
  have hJl : J < xs.length := by omega
  obtain ⟨b, off, rfl, hcell⟩ := HX.out.addr (by omega)
  obtain ⟨e0, e1, e2⟩ := hcell K hKl
  replace e2 := HK.out.later e2
  have HXI := Lib.hid ((HX.out.isIn _ (List.getElem_mem hKl)).keeps HK.out)
  have HNL := Lib.hid (HNS.out _ (List.getElem_mem hKl))
  have HNX := Lib.hid (HNA.out _ (by rw [Int.toNat_natCast]; exact List.getElem?_eq_getElem hKl))
  rw [Int.toNat_natCast] at HNX
  clear hcell HNS HNA e0 e1
  obtain ⟨x, hx⟩ : ∃ x, x = xs[K] := ⟨_, rfl⟩
  rw [← hx] at e2 HXI HNL HNX
  clear hx
  obtain ⟨na, nc, hnv, hn1, hn2, hn3⟩ := HXI.out.n.shape
  have HNR := Lib.hid hn3
  obtain ⟨dv, ev, nv, ds, es, ns⟩ := x
  simp only at hnv hn1 hn2 HNR HNL HNX e2
  subst hnv
  have hJn : J < ns.length := by rw [HNL.out]; exact hJl
  obtain ⟨nb, no', hnab, hncell, -⟩ := RowV.addr HNR.out (by omega)
  have hnj := hncell J hJn
  subst hnab
  have HNV : Hid (ns[J]? = some N) := Lib.hid (by rw [HNX.out, List.getD_eq_getElem?_getD, List.getElem?_eq_getElem hJn]; rfl)
  have hnj2 : w1.cell? ⟨nb, no' + J, none⟩ = some (.bool N) := by
    rw [hnj, List.getElem?_map, HNV.out]; rfl
  have hJc : (J : Int) < (ns.length : Int) := by omega
  clear hnj hncell HNV
  go_wp2_with fail
  go_ret
  exact ⟨by rw [HR2.out]; rfl, HK.out⟩
end Go.Proofs.Ytmjodcackmjllaa
