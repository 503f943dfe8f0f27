/- The walks of layer 7, 3: counts, isMode. -/
import Derived.Test.YtmjodcackmjllaaM3
namespace Go.Proofs.Ytmjodcackmjllaa
open Go.RowKit
set_option linter.unusedVariables false
set_option linter.unusedSimpArgs false
set_option maxRecDepth 100000 in
set_option maxHeartbeats 1000000 in
theorem counts_any (m : RMedl) (w : World) (hm : m.In w) :
    Calls Try.prog 60 #[m.val] w fun e w' => e = .returned (.bool (countsOk m)) ∧ Keeps w w' := by
  have HC := Lib.hid hm.c
  have HX := Lib.hid hm.m
  clear hm
  obtain ⟨no, sl, ga, wi, dr, de, cv, cs, ma, mn, mc, xs⟩ := m
  simp only at HC HX
  obtain ⟨ca, cc, rfl, hc1, hc2, hc3⟩ := HC.out.shape
  clear hc3
  have hlen := HX.out.len
  have hcap := HX.out.hcap
  have hmax := HX.out.hmax
  subst hlen
  obtain ⟨R, hR⟩ : ∃ R, R = countsOk ⟨no, sl, ga, wi, dr, de, .slice ca cs.length cc, cs, ma, xs.length, mc, xs⟩ := ⟨_, rfl⟩
  rw [← hR]
  have HR : Hid (R = (withinB no 4 8 && (withinB xs.length 1 4 && (decide ((cs.length : Int) = no) && decide ((2 : Int) ≤ (truesTo cs cs.length : Nat)))))) := Lib.hid (by
    rw [hR, Bool.eq_iff_iff]
    simp only [countsOk, withinB, Bool.and_eq_true, decide_eq_true_eq]
    omega)
  clear hR
  show Calls Try.prog 60 #[.agg #[.int .i64 no, .int .i64 sl, .int .i64 ga, .int .i64 wi, .int .i64 dr, .int .i64 de, .slice ca cs.length cc, .slice ma xs.length mc]] w _
  have HK := Lib.hid ((Keeps.refl w).alloc (.cells #[.int .i64 no, .int .i64 sl, .int .i64 ga, .int .i64 wi, .int .i64 dr, .int .i64 de, .slice ca cs.length cc, .slice ma xs.length mc] 25))
  have HM := Lib.hid (Box.new w 25 #[.int .i64 no, .int .i64 sl, .int .i64 ga, .int .i64 wi, .int .i64 dr, .int .i64 de, .slice ca cs.length cc, .slice ma xs.length mc])
  go_enter Try.func60, Try.ntmps60
  go_wp2_with fail
  go_loopw [3, 9] (fun v i wr => ∃ k : Nat, k ≤ cs.length ∧ i = .int .i64 k ∧ v = .int .i64 (truesTo cs k : Nat) ∧ Hid (Box wr w.heap.size 25 #[.int .i64 no, .int .i64 sl, .int .i64 ga, .int .i64 wi, .int .i64 dr, .int .i64 de, .slice ca cs.length cc, .slice ma xs.length mc]) ∧ Hid (Keeps w wr)) (fun _ i _ => cs.length - (intOf i).toNat)
  case atStart => exact ⟨0, by omega, rfl, rfl, HM, HK⟩
  case round =>
    clear HM HK
    obtain ⟨k, hk, rfl, rfl, HM, HK⟩ := hrel
    have htl := truesTo_le cs k
    by_cases hlt : k < cs.length
    · obtain ⟨b, off, rfl, hcc, -⟩ := (HC.out.keeps HK.out).boolAt' (by omega)
      have hcell := hcc k hlt
      clear hcc
      have HS := Lib.hid (truesTo_succ cs k hlt)
      obtain ⟨e, he⟩ : ∃ e, e = cs.getD k false := ⟨_, rfl⟩
      rw [← he] at hcell HS
      clear he
      cases e
      all_goals
        go_wp2_with fail
        go_roundw
        case rel => exact ⟨k + 1, by omega, by go_num, by rw [HS.out]; go_num, HM, HK⟩
        case measure => simp [intOf]; omega
    · obtain rfl : k = cs.length := by omega
      have hm0 := HM.out.cell 0 _ rfl
      have hm6 := HM.out.cell 6 _ rfl
      have hm7 := HM.out.cell 7 _ rfl
      have hml := HM.out.lt
      go_wp2_with fail
      with_reducible refine (within_any _ _ _ _).mono ?_
      rintro e w1 ⟨rfl, hk1⟩
      replace HM := Lib.hid (HM.out.keeps hk1)
      replace HK := Lib.hid (HK.out.trans hk1)
      clear hk1 hm0 hm6 hm7 hml
      obtain ⟨A, hA⟩ : ∃ A, A = withinB no 4 8 := ⟨_, rfl⟩
      rw [← hA] at HR ⊢
      clear hA
      have hm0 := HM.out.cell 0 _ rfl
      have hm6 := HM.out.cell 6 _ rfl
      have hm7 := HM.out.cell 7 _ rfl
      have hml := HM.out.lt
      cases A
      · go_wp2_with fail
        go_ret
        exact ⟨ret_bool (by rw [HR.out]; rfl), HK.out⟩
      go_wp2_with fail
      with_reducible refine (within_any _ _ _ _).mono ?_
      rintro e w2 ⟨rfl, hk1⟩
      replace HM := Lib.hid (HM.out.keeps hk1)
      replace HK := Lib.hid (HK.out.trans hk1)
      clear hk1 hm0 hm6 hm7 hml
      obtain ⟨A, hA⟩ : ∃ A, A = withinB xs.length 1 4 := ⟨_, rfl⟩
      rw [← hA] at HR ⊢
      clear hA
      have hm0 := HM.out.cell 0 _ rfl
      have hm6 := HM.out.cell 6 _ rfl
      have hm7 := HM.out.cell 7 _ rfl
      have hml := HM.out.lt
      cases A
      · go_wp2_with fail
        go_ret
        exact ⟨ret_bool (by rw [HR.out]; rfl), HK.out⟩
      by_cases hn : (cs.length : Int) = no
      · have hd : ((cs.length : Int) == no) = true := by simpa using hn
        have HN := Lib.hid hn
        clear hn
        go_wp2_with fail
        go_ret
        exact ⟨ret_bool (by rw [HR.out, decide_eq_true HN.out]; simp), HK.out⟩
      · have hd : ((cs.length : Int) == no) = false := by simpa using hn
        have HN := Lib.hid hn
        clear hn
        go_wp2_with fail
        go_ret
        exact ⟨ret_bool (by rw [HR.out, decide_eq_false HN.out]; rfl), HK.out⟩
set_option maxRecDepth 100000 in
set_option maxHeartbeats 1000000 in
theorem isMode_any (m : RMedl) (x : RM) (w : World) (hm : m.In w) (hx : x.In w) (hc : countsOk m = true) :
    Calls Try.prog 63 #[m.val, .agg #[x.dv, x.ev, x.nv]] w fun e w' => e = .returned (.bool (modeOk m.nodes m.xs.length m.cs x)) ∧ Keeps w w' := by
  have HC := Lib.hid hm.c
  have HX := Lib.hid hm.m
  have HD := Lib.hid hx.d
  have HE := Lib.hid hx.e
  have HN := Lib.hid hx.n
  clear hm hx
  obtain ⟨no, sl, ga, wi, dr, de, cv, cs, ma, mn, mc, xs⟩ := m
  obtain ⟨xd, xe, xn, ds, es, ns⟩ := x
  simp only at HC HX HD HE HN
  simp only [countsOk, decide_eq_true_eq] at hc
  have hcn : (cs.length : Int) = no := by omega
  have HCN := Lib.hid hcn
  clear hcn hc
  obtain ⟨ca, cc, rfl, hc1, hc2, hc3⟩ := HC.out.shape
  obtain ⟨da, dc, rfl, hd1, hd2, hd3⟩ := HD.out.shape
  obtain ⟨ea, ec, rfl, he1, he2, he3⟩ := HE.out.shape
  obtain ⟨na, nc, rfl, hn1, hn2, hn3⟩ := HN.out.shape
  clear hc3 hd3 he3 hn3
  have hlen := HX.out.len
  have hcap := HX.out.hcap
  have hmax := HX.out.hmax
  subst hlen
  show Calls Try.prog 63 #[.agg #[.int .i64 no, .int .i64 sl, .int .i64 ga, .int .i64 wi, .int .i64 dr, .int .i64 de, .slice ca cs.length cc, .slice ma xs.length mc], .agg #[.slice da ds.length dc, .slice ea es.length ec, .slice na ns.length nc]] w fun e w' => e = .returned (.bool (modeOk no xs.length cs ⟨.slice da ds.length dc, .slice ea es.length ec, .slice na ns.length nc, ds, es, ns⟩)) ∧ Keeps w w'
  obtain ⟨R, hR⟩ : ∃ R, R = modeOk no xs.length cs ⟨.slice da ds.length dc, .slice ea es.length ec, .slice na ns.length nc, ds, es, ns⟩ := ⟨_, rfl⟩
  rw [← hR]
  have HR : Hid (R = (decide ((ds.length : Int) = no ∧ (es.length : Int) = no ∧ ns.length = xs.length) && decide (∀ k, k < ds.length → dataOk (ds.getD k 0) = true ∧ (cs.getD k false = true → es.getD k false = true)))) := Lib.hid hR
  clear hR
  have HR0 : Hid (¬ ((ds.length : Int) = no ∧ (es.length : Int) = no ∧ ns.length = xs.length) → R = false) := fun h => by
    rw [HR.out, decide_eq_false h]; rfl
  have HR1 : Hid (¬ (∀ k, k < ds.length → dataOk (ds.getD k 0) = true ∧ (cs.getD k false = true → es.getD k false = true)) → R = false) := fun h => by
    rw [HR.out, decide_eq_false h]; simp
  by_cases h1 : (ds.length : Int) = no
  case neg =>
    have hb1 : ((ds.length : Int) != no) = true := by simpa using h1
    have HRR := Lib.hid (HR0.out (by omega))
    clear h1
    go_enter Try.func63, Try.ntmps63
    go_wp2_with fail
    go_ret
    exact ⟨ret_bool HRR.out.symm, ((Keeps.refl w).alloc _).alloc _⟩
  have hb1 : ((ds.length : Int) != no) = false := by simpa using h1
  by_cases h2 : (es.length : Int) = no
  case neg =>
    have hb2 : ((es.length : Int) != no) = true := by simpa using h2
    have HRR := Lib.hid (HR0.out (by omega))
    clear h1 h2
    go_enter Try.func63, Try.ntmps63
    go_wp2_with fail
    go_ret
    exact ⟨ret_bool HRR.out.symm, ((Keeps.refl w).alloc _).alloc _⟩
  have hb2 : ((es.length : Int) != no) = false := by simpa using h2
  by_cases h3 : ns.length = xs.length
  case neg =>
    have hb3 : ((ns.length : Int) != (xs.length : Int)) = true := by rw [bne_iff_ne]; omega
    have HRR := Lib.hid (HR0.out (by omega))
    clear h1 h2 h3
    go_enter Try.func63, Try.ntmps63
    go_wp2_with fail
    go_ret
    exact ⟨ret_bool HRR.out.symm, ((Keeps.refl w).alloc _).alloc _⟩
  have hb3 : ((ns.length : Int) != (xs.length : Int)) = false := by rw [bne_eq_false_iff_eq]; omega
  have HR2 : Hid ((∀ k, k < ds.length → dataOk (ds.getD k 0) = true ∧ (cs.getD k false = true → es.getD k false = true)) → R = true) := fun h => by
    rw [HR.out, decide_eq_true h, decide_eq_true ⟨h1, h2, h3⟩]; rfl
  have hle : ds.length = es.length := by omega
  have hlc : ds.length = cs.length := by have := HCN.out; omega
  have HLE := Lib.hid hle
  have HLC := Lib.hid hlc
  clear h1 h2 h3 hle hlc HR HR0
  have HK := Lib.hid (((Keeps.refl w).alloc (.cells #[.int .i64 no, .int .i64 sl, .int .i64 ga, .int .i64 wi, .int .i64 dr, .int .i64 de, .slice ca cs.length cc, .slice ma xs.length mc] 25)).alloc (.cells #[.slice da ds.length dc, .slice ea es.length ec, .slice na ns.length nc] 71))
  have HM := Lib.hid ((Box.new w 25 #[.int .i64 no, .int .i64 sl, .int .i64 ga, .int .i64 wi, .int .i64 dr, .int .i64 de, .slice ca cs.length cc, .slice ma xs.length mc]).next (.cells #[.slice da ds.length dc, .slice ea es.length ec, .slice na ns.length nc] 71))
  have hb := Box.new (w.alloc (.cells #[.int .i64 no, .int .i64 sl, .int .i64 ga, .int .i64 wi, .int .i64 dr, .int .i64 de, .slice ca cs.length cc, .slice ma xs.length mc] 25)) 71 #[.slice da ds.length dc, .slice ea es.length ec, .slice na ns.length nc]
  rw [World.size_alloc] at hb
  have HB := Lib.hid hb
  clear hb
  go_enter Try.func63, Try.ntmps63
  go_wp2_with fail
  clear hb1 hb2 hb3
  go_loopw [33] (fun i wr => ∃ k : Nat, k ≤ ds.length ∧ i = .int .i64 k ∧ Hid (∀ i, i < k → dataOk (ds.getD i 0) = true ∧ (cs.getD i false = true → es.getD i false = true)) ∧ Hid (Box wr w.heap.size 25 #[.int .i64 no, .int .i64 sl, .int .i64 ga, .int .i64 wi, .int .i64 dr, .int .i64 de, .slice ca cs.length cc, .slice ma xs.length mc]) ∧ Hid (Box wr (w.heap.size + 1) 71 #[.slice da ds.length dc, .slice ea es.length ec, .slice na ns.length nc]) ∧ Hid (Keeps w wr)) (fun i _ => ds.length - (intOf i).toNat)
  case atStart => exact ⟨0, by omega, rfl, fun i hi => absurd hi (by omega), HM, HB, HK⟩
  case round =>
    clear HM HB HK
    obtain ⟨k, hk, rfl, HI, HM, HB, HK⟩ := hrel
    by_cases hlt : k < ds.length
    · have hlt2 : k < es.length := by have := HLE.out; omega
      have hlt3 : k < cs.length := by have := HLC.out; omega
      obtain ⟨b1, o1, rfl, hq1, -⟩ := (HD.out.keeps HK.out).shapeAt (by omega)
      obtain ⟨b2, o2, rfl, hq2, -⟩ := (HE.out.keeps HK.out).boolAt' (by omega)
      obtain ⟨b3, o3, rfl, hq3, -⟩ := (HC.out.keeps HK.out).boolAt' (by omega)
      have g1 := hq1 k hlt
      have g2 := hq2 k hlt2
      have g3 := hq3 k hlt3
      clear hq1 hq2 hq3
      have HNO : Hid (¬ (dataOk (ds.getD k 0) = true ∧ (cs.getD k false = true → es.getD k false = true)) → R = false) := fun h => HR1.out (fun hh => h (hh k hlt))
      have HYES : Hid ((dataOk (ds.getD k 0) = true ∧ (cs.getD k false = true → es.getD k false = true)) → ∀ i, i < k + 1 → dataOk (ds.getD i 0) = true ∧ (cs.getD i false = true → es.getD i false = true)) := fun h i hi => by
        by_cases e : i = k
        · subst e; exact h
        · exact HI.out i (by omega)
      obtain ⟨d, hd⟩ : ∃ d, d = ds.getD k 0 := ⟨_, rfl⟩
      obtain ⟨e, he⟩ : ∃ e, e = es.getD k false := ⟨_, rfl⟩
      obtain ⟨c, hc⟩ : ∃ c, c = cs.getD k false := ⟨_, rfl⟩
      rw [← hd] at g1 HNO HYES
      rw [← he] at g2 HNO HYES
      rw [← hc] at g3 HNO HYES
      clear hd he hc HI
      go_wp2_with fail
      with_reducible refine (within_any _ _ _ _).mono ?_
      rintro e' w1 ⟨rfl, hk1⟩
      have hwd : withinB d 0 8 = dataOk d := rfl
      rw [hwd]
      clear hwd
      obtain ⟨A, hA⟩ : ∃ A, A = dataOk d := ⟨_, rfl⟩
      rw [← hA] at HNO HYES ⊢
      clear hA
      replace g1 := hk1.later g1
      replace g2 := hk1.later g2
      replace g3 := hk1.later g3
      replace HM := Lib.hid (HM.out.keeps hk1)
      replace HB := Lib.hid (HB.out.keeps hk1)
      replace HK := Lib.hid (HK.out.trans hk1)
      clear hk1
      have hm6 := HM.out.cell 6 _ rfl
      have hml := HM.out.lt
      have hb1 := HB.out.cell 1 _ rfl
      have hbl := HB.out.lt
      cases A
      · go_wp2_with fail
        go_ret
        exact ⟨ret_bool (HNO.out (by simp)).symm, HK.out⟩
      cases c
      · go_wp2_with fail
        go_roundw
        case rel => exact ⟨k + 1, by omega, by go_num, HYES.out ⟨trivial, fun h => (by cases h)⟩, HM, HB, HK⟩
        case measure => simp [intOf]; omega
      cases e
      · go_wp2_with fail
        go_ret
        exact ⟨ret_bool (HNO.out (by simp)).symm, HK.out⟩
      · go_wp2_with fail
        go_roundw
        case rel => exact ⟨k + 1, by omega, by go_num, HYES.out ⟨trivial, fun h => trivial⟩, HM, HB, HK⟩
        case measure => simp [intOf]; omega
    · obtain rfl : k = ds.length := by omega
      go_wp2_with fail
      go_ret
      exact ⟨ret_bool (HR2.out HI.out).symm, HK.out⟩
end Go.Proofs.Ytmjodcackmjllaa
