/- The walks of the reference of layer 7, 2: trues, mode. -/
import Derived.Test.YtmjodcackmjllaaM4
namespace Go.Proofs.Ytmjodcackmjllaa
open Go.RowKit
set_option linter.unusedVariables false
set_option linter.unusedSimpArgs false
set_option maxRecDepth 100000 in
theorem trues_any (v : Value) (cs : List Bool) (w : World) (hv : Bools w v cs) :
    Calls Try.prog 70 #[v] w fun e w' => e = .returned (.int .i64 (truesTo cs cs.length : Nat)) ∧ Keeps w w' := by
  have HC := Lib.hid hv
  obtain ⟨ca, cc, rfl, hc1, hc2, hc3⟩ := hv.shape
  clear hc3 hv
  go_enter Try.func70, Try.ntmps70
  go_wp2_with fail
  go_loopw [3, 4] (fun v i wr => ∃ k : Nat, k ≤ cs.length ∧ i = .int .i64 k ∧ v = .int .i64 (truesTo cs k : Nat) ∧ Hid (Keeps w wr)) (fun _ i _ => cs.length - (intOf i).toNat)
  case atStart => exact ⟨0, by omega, rfl, rfl, Keeps.refl _⟩
  case round =>
    obtain ⟨k, hk, rfl, rfl, HK⟩ := hrel
    have htl := truesTo_le cs k
    by_cases hlt : k < cs.length
    · obtain ⟨b, off, rfl, hcc, -⟩ := (HC.out.keeps HK.out).boolAt' (by omega)
      have hcell := hcc k hlt
      clear hcc
      have HS := Lib.hid (truesTo_succ cs k hlt)
      obtain ⟨e, he⟩ : ∃ e, e = cs.getD k false := ⟨_, rfl⟩
      rw [← he] at hcell HS
      clear he
      cases e
      all_goals
        go_wp2_with fail
        go_roundw
        case rel => exact ⟨k + 1, by omega, by go_num, by rw [HS.out]; go_num, HK⟩
        case measure => simp [intOf]; omega
    · obtain rfl : k = cs.length := by omega
      go_wp2_with fail
      go_ret
      exact ⟨rfl, HK.out⟩
set_option maxRecDepth 100000 in
set_option maxHeartbeats 1000000 in
theorem rmode_any (m : RMedl) (x : RM) (w : World) (hm : m.In w) (hx : x.In w) (hc : countsOk m = true) :
    Calls Try.prog 71 #[.agg #[x.dv, x.ev, x.nv], m.val] w fun e w' => e = .returned (.bool (modeOk m.nodes m.xs.length m.cs x)) ∧ Keeps w w' := by
  have HC := Lib.hid hm.c
  have HX := Lib.hid hm.m
  have HD := Lib.hid hx.d
  have HE := Lib.hid hx.e
  have HN := Lib.hid hx.n
  clear hm hx
  obtain ⟨no, sl, ga, wi, dr, de, cv, cs, ma, mn, mc, xs⟩ := m
  obtain ⟨xd, xe, xn, ds, es, ns⟩ := x
  simp only at HC HX HD HE HN
  simp only [countsOk, decide_eq_true_eq] at hc
  have hcn : (cs.length : Int) = no := by omega
  have HCN := Lib.hid hcn
  clear hcn hc
  obtain ⟨ca, cc, rfl, hc1, hc2, hc3⟩ := HC.out.shape
  obtain ⟨da, dc, rfl, hd1, hd2, hd3⟩ := HD.out.shape
  obtain ⟨ea, ec, rfl, he1, he2, he3⟩ := HE.out.shape
  obtain ⟨na, nc, rfl, hn1, hn2, hn3⟩ := HN.out.shape
  clear hc3 hd3 he3 hn3
  have hlen := HX.out.len
  have hcap := HX.out.hcap
  have hmax := HX.out.hmax
  subst hlen
  show Calls Try.prog 71 #[.agg #[.slice da ds.length dc, .slice ea es.length ec, .slice na ns.length nc], .agg #[.int .i64 no, .int .i64 sl, .int .i64 ga, .int .i64 wi, .int .i64 dr, .int .i64 de, .slice ca cs.length cc, .slice ma xs.length mc]] w fun e w' => e = .returned (.bool (modeOk no xs.length cs ⟨.slice da ds.length dc, .slice ea es.length ec, .slice na ns.length nc, ds, es, ns⟩)) ∧ Keeps w w'
  obtain ⟨R, hR⟩ : ∃ R, R = modeOk no xs.length cs ⟨.slice da ds.length dc, .slice ea es.length ec, .slice na ns.length nc, ds, es, ns⟩ := ⟨_, rfl⟩
  rw [← hR]
  have HR : Hid (R = (decide ((ds.length : Int) = no ∧ (es.length : Int) = no ∧ ns.length = xs.length) && decide (∀ k, k < ds.length → dataOk (ds.getD k 0) = true ∧ (cs.getD k false = true → es.getD k false = true)))) := Lib.hid hR
  clear hR
  have HR0 : Hid (¬ ((ds.length : Int) = no ∧ (es.length : Int) = no ∧ ns.length = xs.length) → R = false) := fun h => by
    rw [HR.out, decide_eq_false h]; rfl
  have HR1 : Hid (¬ (∀ k, k < ds.length → dataOk (ds.getD k 0) = true ∧ (cs.getD k false = true → es.getD k false = true)) → R = false) := fun h => by
    rw [HR.out, decide_eq_false h]; simp
  by_cases h1 : (ds.length : Int) = no
  case neg =>
    have hb1 : ((ds.length : Int) != no) = true := by simpa using h1
    have HRR := Lib.hid (HR0.out (by omega))
    clear h1
    go_enter Try.func71, Try.ntmps71
    go_wp2_with fail
    go_ret
    exact ⟨ret_bool HRR.out.symm, ((Keeps.refl w).alloc _).alloc _⟩
  have hb1 : ((ds.length : Int) != no) = false := by simpa using h1
  by_cases h2 : (es.length : Int) = no
  case neg =>
    have hb2 : ((es.length : Int) != no) = true := by simpa using h2
    have HRR := Lib.hid (HR0.out (by omega))
    clear h1 h2
    go_enter Try.func71, Try.ntmps71
    go_wp2_with fail
    go_ret
    exact ⟨ret_bool HRR.out.symm, ((Keeps.refl w).alloc _).alloc _⟩
  have hb2 : ((es.length : Int) != no) = false := by simpa using h2
  by_cases h3 : ns.length = xs.length
  case neg =>
    have hb3 : ((ns.length : Int) != (xs.length : Int)) = true := by rw [bne_iff_ne]; omega
    have HRR := Lib.hid (HR0.out (by omega))
    clear h1 h2 h3
    go_enter Try.func71, Try.ntmps71
    go_wp2_with fail
    go_ret
    exact ⟨ret_bool HRR.out.symm, ((Keeps.refl w).alloc _).alloc _⟩
  have hb3 : ((ns.length : Int) != (xs.length : Int)) = false := by rw [bne_eq_false_iff_eq]; omega
  have HR2 : Hid ((∀ k, k < ds.length → dataOk (ds.getD k 0) = true ∧ (cs.getD k false = true → es.getD k false = true)) → R = true) := fun h => by
    rw [HR.out, decide_eq_true h, decide_eq_true ⟨h1, h2, h3⟩]; rfl
  have hle : ds.length = es.length := by omega
  have hlc : ds.length = cs.length := by have := HCN.out; omega
  have HLE := Lib.hid hle
  have HLC := Lib.hid hlc
  clear h1 h2 h3 hle hlc HR HR0
  have HK := Lib.hid (((Keeps.refl w).alloc (.cells #[.slice da ds.length dc, .slice ea es.length ec, .slice na ns.length nc] 71)).alloc (.cells #[.int .i64 no, .int .i64 sl, .int .i64 ga, .int .i64 wi, .int .i64 dr, .int .i64 de, .slice ca cs.length cc, .slice ma xs.length mc] 25))
  have HB := Lib.hid ((Box.new w 71 #[.slice da ds.length dc, .slice ea es.length ec, .slice na ns.length nc]).next (.cells #[.int .i64 no, .int .i64 sl, .int .i64 ga, .int .i64 wi, .int .i64 dr, .int .i64 de, .slice ca cs.length cc, .slice ma xs.length mc] 25))
  have hb := Box.new (w.alloc (.cells #[.slice da ds.length dc, .slice ea es.length ec, .slice na ns.length nc] 71)) 25 #[.int .i64 no, .int .i64 sl, .int .i64 ga, .int .i64 wi, .int .i64 dr, .int .i64 de, .slice ca cs.length cc, .slice ma xs.length mc]
  rw [World.size_alloc] at hb
  have HM := Lib.hid hb
  clear hb
  go_enter Try.func71, Try.ntmps71
  go_wp2_with fail
  clear hb1 hb2 hb3
  go_loopw [5] (fun i wr => ∃ k : Nat, k ≤ ds.length ∧ i = .int .i64 k ∧ Hid (∀ i, i < k → dataOk (ds.getD i 0) = true) ∧ Hid (Box wr w.heap.size 71 #[.slice da ds.length dc, .slice ea es.length ec, .slice na ns.length nc]) ∧ Hid (Box wr (w.heap.size + 1) 25 #[.int .i64 no, .int .i64 sl, .int .i64 ga, .int .i64 wi, .int .i64 dr, .int .i64 de, .slice ca cs.length cc, .slice ma xs.length mc]) ∧ Hid (Keeps w wr)) (fun i _ => ds.length - (intOf i).toNat)
  case atStart => exact ⟨0, by omega, rfl, fun i hi => absurd hi (by omega), HB, HM, HK⟩
  case round =>
    clear HM HB HK
    obtain ⟨k, hk, rfl, HI, HB, HM, HK⟩ := hrel
    have b0 := HB.out.cell 0 _ rfl
    have b1 := HB.out.cell 1 _ rfl
    have bl := HB.out.lt
    have m6 := HM.out.cell 6 _ rfl
    have ml := HM.out.lt
    by_cases hlt : k < ds.length
    · obtain ⟨b1, o1, rfl, hq1, -⟩ := (HD.out.keeps HK.out).shapeAt (by omega)
      have g1 := hq1 k hlt
      clear hq1
      have HNO : Hid (dataOk (ds.getD k 0) = false → R = false) := fun h => HR1.out (fun hh => by rw [(hh k hlt).1] at h; cases h)
      have HYES : Hid (dataOk (ds.getD k 0) = true → ∀ i, i < k + 1 → dataOk (ds.getD i 0) = true) := fun h i hi => by
        by_cases e : i = k
        · subst e; exact h
        · exact HI.out i (by omega)
      obtain ⟨d, hd⟩ : ∃ d, d = ds.getD k 0 := ⟨_, rfl⟩
      rw [← hd] at g1 HNO HYES
      clear hd HI
      by_cases h0 : d < 0
      · have e0 : decide (d < 0) = true := by simpa using h0
        have HRR := Lib.hid (HNO.out (by unfold dataOk; rw [decide_eq_false (by omega)]; rfl))
        go_wp2_with fail
        go_ret
        exact ⟨ret_bool HRR.out.symm, HK.out⟩
      have e0 : decide (d < 0) = false := by simpa using h0
      by_cases h8 : 8 < d
      · have e8 : decide (8 < d) = true := by simpa using h8
        have HRR := Lib.hid (HNO.out (by unfold dataOk; rw [decide_eq_false (show ¬ d ≤ 8 by omega)]; simp))
        go_wp2_with fail
        go_ret
        exact ⟨ret_bool HRR.out.symm, HK.out⟩
      have e8 : decide (8 < d) = false := by simpa using h8
      replace HYES := Lib.hid (HYES.out (by unfold dataOk; rw [decide_eq_true (show 0 ≤ d by omega), decide_eq_true (show d ≤ 8 by omega)]; rfl))
      go_wp2_with fail
      go_roundw
      case rel => exact ⟨k + 1, by omega, by go_num, HYES, HB, HM, HK⟩
      case measure => simp [intOf]; omega
    · obtain rfl : k = ds.length := by omega
      go_wp2_with fail
      clear b0 b1 bl m6 ml
      have HI1 := Lib.hid HI.out
      clear HI
      go_loopw [6] (fun i wr => ∃ k : Nat, k ≤ ds.length ∧ i = .int .i64 k ∧ Hid (∀ i, i < k → (cs.getD i false = true → es.getD i false = true)) ∧ Hid (Box wr w.heap.size 71 #[.slice da ds.length dc, .slice ea es.length ec, .slice na ns.length nc]) ∧ Hid (Box wr (w.heap.size + 1) 25 #[.int .i64 no, .int .i64 sl, .int .i64 ga, .int .i64 wi, .int .i64 dr, .int .i64 de, .slice ca cs.length cc, .slice ma xs.length mc]) ∧ Hid (Keeps w wr)) (fun i _ => ds.length - (intOf i).toNat)
      case atStart => exact ⟨0, by omega, rfl, fun i hi => absurd hi (by omega), HB, HM, HK⟩
      case round =>
        clear HM HB HK
        obtain ⟨k, hk, rfl, HI, HB, HM, HK⟩ := hrel
        have b1 := HB.out.cell 1 _ rfl
        have bl := HB.out.lt
        have m6 := HM.out.cell 6 _ rfl
        have ml := HM.out.lt
        by_cases hlt : k < ds.length
        · have hlt2 : k < es.length := by have := HLE.out; omega
          have hlt3 : k < cs.length := by have := HLC.out; omega
          obtain ⟨b2, o2, rfl, hq2, -⟩ := (HE.out.keeps HK.out).boolAt' (by omega)
          obtain ⟨b3, o3, rfl, hq3, -⟩ := (HC.out.keeps HK.out).boolAt' (by omega)
          have g2 := hq2 k hlt2
          have g3 := hq3 k hlt3
          clear hq2 hq3
          have HNO : Hid (¬ (cs.getD k false = true → es.getD k false = true) → R = false) := fun h => HR1.out (fun hh => h (hh k hlt).2)
          have HYES : Hid ((cs.getD k false = true → es.getD k false = true) → ∀ i, i < k + 1 → (cs.getD i false = true → es.getD i false = true)) := fun h i hi => by
            by_cases e : i = k
            · subst e; exact h
            · exact HI.out i (by omega)
          obtain ⟨e, he⟩ : ∃ e, e = es.getD k false := ⟨_, rfl⟩
          obtain ⟨c, hc⟩ : ∃ c, c = cs.getD k false := ⟨_, rfl⟩
          rw [← he] at g2 HNO HYES
          rw [← hc] at g3 HNO HYES
          clear he hc HI
          cases c
          · replace HYES := Lib.hid (HYES.out (fun h => (by cases h)))
            go_wp2_with fail
            go_roundw
            case rel => exact ⟨k + 1, by omega, by go_num, HYES, HB, HM, HK⟩
            case measure => simp [intOf]; omega
          cases e
          · replace HNO := Lib.hid (HNO.out (by simp))
            go_wp2_with fail
            go_ret
            exact ⟨ret_bool HNO.out.symm, HK.out⟩
          · replace HYES := Lib.hid (HYES.out (fun h => rfl))
            go_wp2_with fail
            go_roundw
            case rel => exact ⟨k + 1, by omega, by go_num, HYES, HB, HM, HK⟩
            case measure => simp [intOf]; omega
        · obtain rfl : k = ds.length := by omega
          have HRR := Lib.hid (HR2.out (fun i hi => ⟨HI1.out i hi, HI.out i hi⟩))
          have hge : decide (ds.length < es.length) = false := by have := HLE.out; simp; omega
          have hge2 : decide ((ds.length : Int) < es.length) = false := by have := HLE.out; simp; omega
          go_wp2_with fail
          go_ret
          exact ⟨ret_bool HRR.out.symm, HK.out⟩
end Go.Proofs.Ytmjodcackmjllaa
