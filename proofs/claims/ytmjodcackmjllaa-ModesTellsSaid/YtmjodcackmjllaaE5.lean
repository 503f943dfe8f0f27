/- The reference of layer 10, 2: Reach. -/
import Derived.Test.YtmjodcackmjllaaE4
import Derived.Test.YtmjodcackmjllaaM10
import Derived.Test.YtmjodcackmjllaaM12
import Derived.Deep.DeepCutAuto
namespace Go.Proofs.Ytmjodcackmjllaa
open Go.RowKit Go.Shelf
set_option linter.unusedVariables false
set_option linter.unusedSimpArgs false
set_option maxRecDepth 100000 in
set_option maxHeartbeats 8000000 in
theorem rreachX_any (m : RMedl) (s0 q0 ch : Int) (w : World) (hm : m.In w) : Calls Try.prog 37 #[m.val, .int .i64 s0, .int .i64 q0, .int .i64 ch] w fun e w' => e = .returned (.tuple #[.bool (reachR m s0 q0 ch).1, .int .i64 (reachR m s0 q0 ch).2]) ∧ Keeps w w' := by
  have HM := Lib.hid hm
  clear hm
  have HCH : Hid (∀ w, m.In w → Calls Try.prog 29 #[m.val] w fun e w' => e = .returned (.int .i64 (cond (medlOk m) 0 70)) ∧ Keeps w w') := Lib.hid (rmcheck_any m)
  have HR : Hid (reachR m s0 q0 ch = cond (medlOk m) (cond (mIn m s0 && (mIn m q0 && decide (0 ≤ ch))) (decide (0 < farP m s0 q0) && decide ((farP m s0 q0 : Int) - 1 ≤ ch), 0) (false, 2)) (false, 70)) := Lib.hid rfl
  have HFP : Hid (∀ s q : Nat, s0 = s → q0 = q → farP m s0 q0 = bfs (adj m) m.xs.length s m.xs.length q) := Lib.hid (fun s q h1 h2 => by subst h1 h2; rfl)
  have HIN : Hid (∀ k, mIn m k = (decide (0 ≤ k) && decide (k < m.xs.length))) := Lib.hid (fun k => rfl)
  have HC4 := Lib.hid (@medlOk_cnt m)
  have HNS := Lib.hid (@medlOk_ns m)
  have HAO := Lib.hid (@adj_out m)
  have HAD : Hid (∀ (i j : Nat) (h : i < m.xs.length), adj m i j = (m.xs[i]).ns.getD j false) := Lib.hid (fun i j h => by
    unfold adj nextAt
    rw [Int.toNat_natCast, Int.toNat_natCast, List.getElem?_eq_getElem h])
  rw [HIN.out, HIN.out] at HR
  obtain ⟨R, hR⟩ : ∃ R, R = reachR m s0 q0 ch := ⟨_, rfl⟩
  obtain ⟨OK, hOK⟩ : ∃ OK, OK = medlOk m := ⟨_, rfl⟩
  obtain ⟨FP, hFP⟩ : ∃ FP, FP = farP m s0 q0 := ⟨_, rfl⟩
  obtain ⟨A, hA⟩ : ∃ A, A = adj m := ⟨_, rfl⟩
  rw [← hR, ← hOK, ← hFP] at HR
  rw [← hOK] at HCH HC4 HNS HAO
  rw [← hFP, ← hA] at HFP
  rw [← hA] at HAO HAD
  rw [← hR]
  clear hR hOK hFP hA HIN
  obtain ⟨ca, cc, hcv, hc1, hc2, hc3⟩ := HM.out.c.shape
  clear hc3
  have HX := Lib.hid HM.out.m
  obtain ⟨no, sl, ga, wi, dr, de, cv, cs, ma, mn, mc, xs⟩ := m
  simp only at hcv hc1 HX HFP HC4 HNS HAO HAD HR
  have hlen := HX.out.len
  have hcap := HX.out.hcap
  have hmax := HX.out.hmax
  subst hlen hcv
  have HK := Lib.hid ((Keeps.refl w).alloc (.cells #[.int .i64 no, .int .i64 sl, .int .i64 ga, .int .i64 wi, .int .i64 dr, .int .i64 de, .slice ca cs.length cc, .slice ma xs.length mc] 25))
  have HB := Lib.hid (Box.new w 25 #[.int .i64 no, .int .i64 sl, .int .i64 ga, .int .i64 wi, .int .i64 dr, .int .i64 de, .slice ca cs.length cc, .slice ma xs.length mc])
  show Calls Try.prog 37 #[.agg #[.int .i64 no, .int .i64 sl, .int .i64 ga, .int .i64 wi, .int .i64 dr, .int .i64 de, .slice ca cs.length cc, .slice ma xs.length mc], .int .i64 s0, .int .i64 q0, .int .i64 ch] w _
  go_enter Try.func37, Try.ntmps37
  go_wp2_with fail
  with_reducible refine (HCH.out _ (by exact HM.out.keeps HK.out)).mono ?_
  rintro e w1 ⟨rfl, hk1⟩
  replace HB := Lib.hid (HB.out.keeps hk1)
  replace HK := Lib.hid (HK.out.trans hk1)
  clear hk1
  have m0 := HB.out.cell 0 _ rfl
  have m1 := HB.out.cell 1 _ rfl
  have m2 := HB.out.cell 2 _ rfl
  have m3 := HB.out.cell 3 _ rfl
  have m4 := HB.out.cell 4 _ rfl
  have m5 := HB.out.cell 5 _ rfl
  have m6 := HB.out.cell 6 _ rfl
  have m7 := HB.out.cell 7 _ rfl
  have ml := HB.out.lt
  cases OK
  · simp only [cond_false] at HR ⊢
    go_wp2_with fail
    go_ret2
    exact ⟨by rw [HR.out]; rfl, HK.out⟩
  simp only [cond_true] at HR ⊢
  have h4 := HC4.out rfl
  have HNS2 := Lib.hid (HNS.out rfl)
  have HAO2 := Lib.hid (HAO.out rfl)
  clear HC4 HNS HAO
  by_cases t0 : s0 < 0
  case pos =>
    have d0 : decide (s0 < 0) = true := decide_eq_true t0
    have HR2 : Hid (R = (false, 2)) := Lib.hid (by rw [HR.out, decide_eq_false (show ¬ 0 ≤ s0 by omega)]; simp)
    go_wp2_with fail
    go_ret2
    exact ⟨by rw [HR2.out]; rfl, HK.out⟩
  have d0 : decide (s0 < 0) = false := decide_eq_false t0
  by_cases t1 : (xs.length : Int) ≤ s0
  case pos =>
    have d1 : decide ((xs.length : Int) ≤ s0) = true := decide_eq_true t1
    have HR2 : Hid (R = (false, 2)) := Lib.hid (by rw [HR.out, decide_eq_false (show ¬ s0 < (xs.length : Int) by omega)]; simp)
    go_wp2_with fail
    go_ret2
    exact ⟨by rw [HR2.out]; rfl, HK.out⟩
  have d1 : decide ((xs.length : Int) ≤ s0) = false := decide_eq_false t1
  by_cases t2 : q0 < 0
  case pos =>
    have d2 : decide (q0 < 0) = true := decide_eq_true t2
    have HR2 : Hid (R = (false, 2)) := Lib.hid (by rw [HR.out, decide_eq_false (show ¬ 0 ≤ q0 by omega)]; simp)
    go_wp2_with fail
    go_ret2
    exact ⟨by rw [HR2.out]; rfl, HK.out⟩
  have d2 : decide (q0 < 0) = false := decide_eq_false t2
  by_cases t3 : (xs.length : Int) ≤ q0
  case pos =>
    have d3 : decide ((xs.length : Int) ≤ q0) = true := decide_eq_true t3
    have HR2 : Hid (R = (false, 2)) := Lib.hid (by rw [HR.out, decide_eq_false (show ¬ q0 < (xs.length : Int) by omega)]; simp)
    go_wp2_with fail
    go_ret2
    exact ⟨by rw [HR2.out]; rfl, HK.out⟩
  have d3 : decide ((xs.length : Int) ≤ q0) = false := decide_eq_false t3
  by_cases t4 : ch < 0
  case pos =>
    have d4 : decide (ch < 0) = true := decide_eq_true t4
    have HR2 : Hid (R = (false, 2)) := Lib.hid (by rw [HR.out, decide_eq_false (show ¬ 0 ≤ ch by omega)]; simp)
    go_wp2_with fail
    go_ret2
    exact ⟨by rw [HR2.out]; rfl, HK.out⟩
  have d4 : decide (ch < 0) = false := decide_eq_false t4
  rw [decide_eq_true (show 0 ≤ s0 by omega), decide_eq_true (show s0 < (xs.length : Int) by omega), decide_eq_true (show 0 ≤ q0 by omega), decide_eq_true (show q0 < (xs.length : Int) by omega), decide_eq_true (show 0 ≤ ch by omega)] at HR
  simp only [Bool.and_true, cond_true] at HR
  obtain ⟨s, rfl⟩ := Int.eq_ofNat_of_zero_le (show 0 ≤ s0 by omega)
  obtain ⟨q, rfl⟩ := Int.eq_ofNat_of_zero_le (show 0 ≤ q0 by omega)
  have HFQ := Lib.hid (HFP.out s q rfl rfl)
  clear HFP
  obtain ⟨n, hn⟩ : ∃ n, n = xs.length := ⟨_, rfl⟩
  have hn1 : 1 ≤ n ∧ n ≤ 4 := by omega
  have hsn : s < n := by omega
  have hqn : q < n := by omega
  have hch : 0 ≤ ch := by omega
  have HLN := Lib.hid hn
  clear m0 m1 m2 m3 m4 m5 m6 m7 ml
  rw [← hn] at HFQ HAO2 HB HM HX h4 hcap HNS2 d1 d3 ⊢
  clear hn t0 t1 t2 t3 t4
  have m0 := HB.out.cell 0 _ rfl
  have m1 := HB.out.cell 1 _ rfl
  have m2 := HB.out.cell 2 _ rfl
  have m3 := HB.out.cell 3 _ rfl
  have m4 := HB.out.cell 4 _ rfl
  have m5 := HB.out.cell 5 _ rfl
  have m6 := HB.out.cell 6 _ rfl
  have m7 := HB.out.cell 7 _ rfl
  have ml := HB.out.lt
  go_upto_region 6 with fail
  obtain ⟨sb, so, hab, hcell⟩ := HX.out.addr (show 0 < xs.length by have := HLN.out; omega)
  subst hab
  have HCELL := Lib.hid hcell
  clear hcell
  obtain ⟨i0, hi0, hz0, hz1, hz2⟩ := info_parts info_boolM
  have hby : i0.bytes * n ≤ 281474976710656 := by rw [hz2]; omega
  have hml := HB.out.lt
  go_wp2_with (refine wpList_make_full _ rfl _ _ 22 rfl w1.heap.size 4 i0 (.bool false) 1 Try.underlying22 hi0 hz0 hz1 .i64 .i64 (n : Int) (n : Int) n rfl rfl rfl rfl hby (by unfold maxLen; omega) (Nat.le_refl _) ?hmain)
  case hmain =>
    intro w2 hown hgr
    have hk2 : Keeps w1 w2 := (Below.refl w1.heap.size w1).grown hgr (Nat.le_refl _) (fun k hk => by cases hk)
    obtain ⟨g0, cap0, hv0, hg0, hg1, hg2, hrow0⟩ := BRow.ofOwn (f := fun _ => false) hown (by omega) (fun q hq => made_bools n q hq)
    simp only [Value.slice.injEq, Option.some.injEq, Addr.mk.injEq, and_true, true_and] at hv0
    obtain ⟨rfl, rfl⟩ := hv0
    replace HB := Lib.hid (HB.out.keeps hk2)
    replace HK := Lib.hid (HK.out.trans hk2)
    obtain ⟨T, hT⟩ : ∃ T, T = w1.heap.size := ⟨_, rfl⟩
    have HT0 := Lib.hid hrow0
    rw [← hT] at HT0 hml ⊢
    clear hown hgr hk2 hg0 hg1 hg2 hrow0 hT m0 m1 m2 m3 m4 m5 m6 m7 ml
    have tl := HT0.out.lt
    have tf := HT0.out.frozen
    have tc := HT0.out.cell s hsn
    have HT1 : Hid (BRow (w2.setCell ⟨T, s, none⟩ (.bool true)) T n (thf A n s 0)) := Lib.hid (HT0.out.set s hsn (by
      rw [thf_zero]
      funext x
      by_cases h : x = s <;> simp [h]))
    have HB1 := Lib.hid (HB.out.keepsBut (KeepsBut.setCell _ T s (.bool true)) (by omega))
    have HK1 := Lib.hid (HK.out.setCell (show w.heap.size ≤ T by omega) (p := ⟨T, s, none⟩) (.bool true))
    clear HT0
    go_wp2_with fail
    clear tl tf tc HB HK
    go_loopw [11, 12] (fun tv kv wr => ∃ (K tb tc : Nat), (K : Int) ≤ ch ∧ K ≤ n ∧ kv = .int .i64 K ∧ tv = .slice (some ⟨tb, 0, none⟩) n tc ∧ n ≤ tc ∧ tc ≤ 9223372036854775807 ∧ w.heap.size < tb ∧ Hid (Box wr w.heap.size 25 #[.int .i64 no, .int .i64 sl, .int .i64 ga, .int .i64 wi, .int .i64 dr, .int .i64 de, .slice ca cs.length cc, .slice (some ⟨sb, so, none⟩) n mc]) ∧ Hid (BRow wr tb n (thf A n s K)) ∧ Hid (Keeps w wr)) (fun _ kv _ => n - (intOf kv).toNat)
    case atStart => exact ⟨0, T, n, hch, Nat.zero_le _, rfl, rfl, Nat.le_refl _, by omega, hml, HB1, HT1, HK1⟩
    case round =>
      clear HB1 HT1 HK1
      obtain ⟨K, tb, tc, hKc, hKn, rfl, rfl, htc1, htc2, hwt, HB, HT, HK⟩ := hrel
      have m0 := HB.out.cell 0 _ rfl
      have m1 := HB.out.cell 1 _ rfl
      have m2 := HB.out.cell 2 _ rfl
      have m3 := HB.out.cell 3 _ rfl
      have m4 := HB.out.cell 4 _ rfl
      have m5 := HB.out.cell 5 _ rfl
      have m6 := HB.out.cell 6 _ rfl
      have m7 := HB.out.cell 7 _ rfl
      have ml := HB.out.lt
      have HFIN : Hid ((K : Int) = min ch n → R = (thf A n s K q, 0)) := Lib.hid (fun h => by
        rw [HR.out, HFQ.out, thf_far A n s q hsn HAO2.out ch hch K h])
      have tq := HT.out.cell q hqn
      by_cases h0 : (K : Int) < ch
      case neg =>
        have e1 : decide ((K : Int) < ch) = false := decide_eq_false h0
        have HR2 := Lib.hid (HFIN.out (by omega))
        clear HFIN
        go_wp2_with fail
        go_ret2
        exact ⟨by rw [HR2.out]; rfl, HK.out⟩
      have e1 : decide ((K : Int) < ch) = true := decide_eq_true h0
      by_cases h1 : K < n
      case neg =>
        have e2 : decide (K < n) = false := decide_eq_false h1
        have e3 : decide ((K : Int) < (n : Int)) = false := decide_eq_false (by omega)
        have HR2 := Lib.hid (HFIN.out (by omega))
        clear HFIN
        go_wp2_with fail
        go_ret2
        exact ⟨by rw [HR2.out]; rfl, HK.out⟩
      have e2 : decide (K < n) = true := decide_eq_true h1
      have e3 : decide ((K : Int) < (n : Int)) = true := decide_eq_true (by omega)
      clear HFIN tq
      have htl := HT.out.lt
      go_wp2_with (refine wpList_copiedB rfl (.const (.slice none 0 0)) (.tmp 64) rfl rfl tb n tc (thf A n s K) rfl (by exact HT.out) (by omega) (by omega) ?hmain2)
      case hmain2 =>
        intro nb nc w3 hnb hnc1 hnc2 hrow hk1
        have HN0 : Hid (BRow w3 nb n (stB A (thf A n s K) 0 0)) := Lib.hid (by rw [stB_start]; exact hrow)
        replace HB := Lib.hid (HB.out.keeps hk1)
        replace HT := Lib.hid (HT.out.keeps hk1)
        replace HK := Lib.hid (HK.out.trans hk1)
        clear hk1 hrow m0 m1 m2 m3 m4 m5 m6 m7 ml
        have hnt : nb ≠ tb := by omega
        have hnt2 : tb ≠ nb := by omega
        have hwn : w.heap.size < nb := by omega
        clear htl hnb
        have m0 := HB.out.cell 0 _ rfl
        have m1 := HB.out.cell 1 _ rfl
        have m2 := HB.out.cell 2 _ rfl
        have m3 := HB.out.cell 3 _ rfl
        have m4 := HB.out.cell 4 _ rfl
        have m5 := HB.out.cell 5 _ rfl
        have m6 := HB.out.cell 6 _ rfl
        have m7 := HB.out.cell 7 _ rfl
        have ml := HB.out.lt
        go_wp2_with fail
        go_loopw [14] (fun iv wr => ∃ i : Nat, i ≤ n ∧ iv = .int .i64 i ∧ Hid (Box wr w.heap.size 25 #[.int .i64 no, .int .i64 sl, .int .i64 ga, .int .i64 wi, .int .i64 dr, .int .i64 de, .slice ca cs.length cc, .slice (some ⟨sb, so, none⟩) n mc]) ∧ Hid (BRow wr tb n (thf A n s K)) ∧ Hid (BRow wr nb n (stB A (thf A n s K) i 0)) ∧ Hid (Keeps w wr)) (fun iv _ => n - (intOf iv).toNat)
        case atStart => exact ⟨0, Nat.zero_le _, rfl, HB, HT, HN0, HK⟩
        case round =>
          clear HB HT HN0 HK m0 m1 m2 m3 m4 m5 m6 m7 ml
          obtain ⟨i, hi, rfl, HB, HT, HN, HK⟩ := hrel
          have m0 := HB.out.cell 0 _ rfl
          have m1 := HB.out.cell 1 _ rfl
          have m2 := HB.out.cell 2 _ rfl
          have m3 := HB.out.cell 3 _ rfl
          have m4 := HB.out.cell 4 _ rfl
          have m5 := HB.out.cell 5 _ rfl
          have m6 := HB.out.cell 6 _ rfl
          have m7 := HB.out.cell 7 _ rfl
          have ml := HB.out.lt
          by_cases hil : i < n
          case neg =>
            obtain rfl : i = n := by omega
            have e4 : decide (i < i) = false := by simp
            have e5 : decide ((i : Int) < (i : Int)) = false := by simp
            have hw1 : IntKind.i64.wrap ((K : Int) + 1) = (K : Int) + 1 := IntWalk.i64_in _ (by omega)
            have HN2 : Hid (BRow wr nb i (thf A i s (K + 1))) := Lib.hid (by rw [← thf_succ A i s K hsn HAO2.out]; exact HN.out)
            clear HN
            go_wp2_with fail
            go_roundw
            case rel => exact ⟨K + 1, nb, nc, by omega, by omega, by go_num, by go_num, hnc1, hnc2, hwn, HB, HN2, HK⟩
            case measure => simp [intOf]; omega
          have e4 : decide (i < n) = true := decide_eq_true hil
          have e5 : decide ((i : Int) < (n : Int)) = true := decide_eq_true (by omega)
          have hix : i < xs.length := by have := HLN.out; omega
          obtain ⟨-, -, g2⟩ := HCELL.out i hix
          have HXW := Lib.hid (HX.out.isIn _ (List.getElem_mem hix)).n
          have HNL := Lib.hid (HNS2.out _ (List.getElem_mem hix))
          have HAI := Lib.hid (fun j => HAD.out i j hix)
          obtain ⟨x, hx⟩ : ∃ x, x = xs[i] := ⟨_, rfl⟩
          simp only [← hx] at g2 HXW HNL HAI
          clear hx
          obtain ⟨xa, xc, hnv, hn1', hn2', hnr⟩ := HXW.out.shape
          have HNR := Lib.hid hnr
          clear hnr HXW
          obtain ⟨dv, ev, nv, ds, es, ns⟩ := x
          simp only at hnv g2 HNL HAI hn1' HNR
          subst hnv
          obtain ⟨xb, xo, hxab, hxcell, -⟩ := RowV.addr HNR.out (show 0 < ns.length by rw [HNL.out]; omega)
          subst hxab
          have HNC := Lib.hid hxcell
          have HG2 := Lib.hid g2
          have HNSN : Hid (ns.length = n) := Lib.hid HNL.out
          obtain ⟨nl, hnl⟩ : ∃ nl, nl = ns.length := ⟨_, rfl⟩
          have HNLE : Hid (nl = n) := Lib.hid (by rw [hnl]; exact HNSN.out)
          rw [← hnl] at HG2 hn1'
          clear hxcell HNR g2 hnl
          obtain rfl : nl = n := HNLE.out
          clear HNLE
          go_wp2_with fail
          go_loopw [15] (fun jv wr => ∃ j : Nat, j ≤ nl ∧ jv = .int .i64 j ∧ Hid (Box wr w.heap.size 25 #[.int .i64 no, .int .i64 sl, .int .i64 ga, .int .i64 wi, .int .i64 dr, .int .i64 de, .slice ca cs.length cc, .slice (some ⟨sb, so, none⟩) nl mc]) ∧ Hid (BRow wr tb nl (thf A nl s K)) ∧ Hid (BRow wr nb nl (stB A (thf A nl s K) i j)) ∧ Hid (Keeps w wr)) (fun jv _ => nl - (intOf jv).toNat)
          case atStart => exact ⟨0, Nat.zero_le _, rfl, HB, HT, HN, HK⟩
          case round =>
            clear HB HT HN HK m0 m1 m2 m3 m4 m5 m6 m7 ml
            obtain ⟨j, hj, rfl, HB, HT, HN, HK⟩ := hrel
            have m0 := HB.out.cell 0 _ rfl
            have m1 := HB.out.cell 1 _ rfl
            have m2 := HB.out.cell 2 _ rfl
            have m3 := HB.out.cell 3 _ rfl
            have m4 := HB.out.cell 4 _ rfl
            have m5 := HB.out.cell 5 _ rfl
            have m6 := HB.out.cell 6 _ rfl
            have m7 := HB.out.cell 7 _ rfl
            have ml := HB.out.lt
            have g2 := HK.out.later HG2.out
            by_cases hjl : j < nl
            case neg =>
              obtain rfl : j = nl := by omega
              have e6 : decide (j < j) = false := by simp
              have e7 : decide ((j : Int) < (j : Int)) = false := by simp
              have HN2 : Hid (BRow wr nb j (stB A (thf A j s K) (i + 1) 0)) := Lib.hid (by
                rw [← stB_row A _ i j (HAO2.out i)]
                exact HN.out)
              clear HN
              go_wp2_with fail
              go_roundw
              case rel => exact ⟨i + 1, by omega, by go_num, HB, HT, HN2, HK⟩
              case measure => simp [intOf]; omega
            have e6 : decide (j < nl) = true := decide_eq_true hjl
            have e7 : decide ((j : Int) < (nl : Int)) = true := decide_eq_true (by omega)
            have hjn : j < ns.length := by have := HNSN.out; omega
            have hnj0 := HNC.out j hjn
            rw [List.getElem?_map, List.getElem?_eq_getElem hjn] at hnj0
            have haij : A i j = ns[j] := by rw [HAI.out j, List.getD_eq_getElem?_getD, List.getElem?_eq_getElem hjn]; rfl
            obtain ⟨b, hb⟩ : ∃ b, b = ns[j] := ⟨_, rfl⟩
            rw [← hb] at haij
            have hnj := HK.out.later (v := .bool b) (by rw [hnj0, hb]; rfl)
            clear hb hnj0
            have hti := HT.out.cell i hil
            have hcj := HN.out.cell j hjl
            have hff := HN.out.frozen
            have hfl := HN.out.lt
            have HNO := Lib.hid (stB_no A (thf A nl s K) i j)
            have HYES := Lib.hid (stB_yes A (thf A nl s K) i j)
            rw [haij] at HNO HYES
            obtain ⟨G2, hG2⟩ : ∃ G2, G2 = stB A (thf A nl s K) i (j + 1) := ⟨_, rfl⟩
            have HG3 := Lib.hid hG2
            rw [← hG2] at HNO HYES
            obtain ⟨ti, hti2⟩ : ∃ ti, ti = thf A nl s K i := ⟨_, rfl⟩
            rw [← hti2] at hti HNO HYES
            clear hG2 haij hti2
            cases ti
            · have HQ : Hid (BRow wr nb nl (stB A (thf A nl s K) i (j + 1))) := Lib.hid (by rw [← HG3.out, HNO.out rfl]; exact HN.out)
              clear HNO HYES HG3 HN
              go_wp2_with fail
              go_roundw
              case rel => exact ⟨j + 1, by omega, by go_num, HB, HT, HQ, HK⟩
              case measure => simp [intOf]; omega
            cases b
            · have HQ : Hid (BRow wr nb nl (stB A (thf A nl s K) i (j + 1))) := Lib.hid (by rw [← HG3.out, HNO.out rfl]; exact HN.out)
              clear HNO HYES HG3 HN
              go_wp2_with fail
              go_roundw
              case rel => exact ⟨j + 1, by omega, by go_num, HB, HT, HQ, HK⟩
              case measure => simp [intOf]; omega
            have HQ : Hid (BRow (wr.setCell ⟨nb, j, none⟩ (.bool true)) nb nl (stB A (thf A nl s K) i (j + 1))) := Lib.hid (HN.out.set j hjl (by rw [← HG3.out]; exact HYES.out rfl))
            clear HNO HYES HG3
            go_wp2_with fail
            go_roundw
            case rel => exact ⟨j + 1, by omega, by go_num, Lib.hid (HB.out.keepsBut (KeepsBut.setCell _ nb j (.bool true)) (by omega)), Lib.hid (HT.out.other hnt2), HQ, Lib.hid (HK.out.setCell (show w.heap.size ≤ nb by omega) (p := ⟨nb, j, none⟩) _)⟩
            case measure => simp [intOf]; omega
end Go.Proofs.Ytmjodcackmjllaa
