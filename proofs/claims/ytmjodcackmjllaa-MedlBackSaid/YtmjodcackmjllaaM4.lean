/- The walks of the reference of layer 7, 1: MaxAir. -/
import Derived.Test.YtmjodcackmjllaaM3
namespace Go.Proofs.Ytmjodcackmjllaa
open Go.RowKit
set_option linter.unusedVariables false
set_option linter.unusedSimpArgs false
set_option maxRecDepth 100000 in
theorem rmair_any (m : RMedl) (w : World) (hm : m.In w) :
    Calls Try.prog 31 #[m.val] w fun e w' => e = .returned (.int .i64 m.mair) ∧ Keeps w w' := by
  have HC := Lib.hid hm.c
  have HX := Lib.hid hm.m
  clear hm
  obtain ⟨no, sl, ga, wi, dr, de, cv, cs, ma, mn, mc, xs⟩ := m
  show Calls Try.prog 31 #[.agg #[.int .i64 no, .int .i64 sl, .int .i64 ga, .int .i64 wi, .int .i64 dr, .int .i64 de, cv, .slice ma mn mc]] w _
  have HK := Lib.hid ((Keeps.refl w).alloc (.cells #[.int .i64 no, .int .i64 sl, .int .i64 ga, .int .i64 wi, .int .i64 dr, .int .i64 de, cv, .slice ma mn mc] 25))
  have HM := Lib.hid (Box.new w 25 #[.int .i64 no, .int .i64 sl, .int .i64 ga, .int .i64 wi, .int .i64 dr, .int .i64 de, cv, .slice ma mn mc])
  go_enter Try.func31, Try.ntmps31
  go_wp2_with fail
  with_reducible refine (rsize_any _ _ _ (.inl rfl)).mono ?_
  rintro e w1 ⟨rfl, hk1⟩
  replace HK := Lib.hid (HK.out.trans hk1)
  replace HM := Lib.hid (HM.out.keeps hk1)
  clear hk1
  go_wp2_with fail
  with_reducible refine (rair_any _ _ (by decide)).mono ?_
  rintro e w2 ⟨rfl, hk2⟩
  replace HK := Lib.hid (HK.out.trans hk2)
  replace HM := Lib.hid (HM.out.keeps hk2)
  clear hk2
  have hm0 := HM.out.cell 0 _ rfl
  have hm7 := HM.out.cell 7 _ rfl
  have hml := HM.out.lt
  go_wp2_with fail
  clear hm0 hm7 hml
  have hlen := HX.out.len
  have hcap := HX.out.hcap
  have hmax := HX.out.hmax
  subst hlen
  go_loopw [3, 4] (fun mv i wr => ∃ k : Nat, k ≤ xs.length ∧ i = .int .i64 k ∧ mv = .int .i64 (mairTo no xs k) ∧ Hid (Box wr w.heap.size 25 #[.int .i64 no, .int .i64 sl, .int .i64 ga, .int .i64 wi, .int .i64 dr, .int .i64 de, cv, .slice ma xs.length mc]) ∧ Hid (Keeps w wr)) (fun _ i _ => xs.length - (intOf i).toNat)
  case atStart => exact ⟨0, by omega, rfl, rfl, HM, HK⟩
  case round =>
    clear HM HK
    obtain ⟨k, hk, rfl, rfl, HM, HK⟩ := hrel
    have hm0 := HM.out.cell 0 _ rfl
    have hm7 := HM.out.cell 7 _ rfl
    have hml := HM.out.lt
    by_cases hlt : k < xs.length
    · obtain ⟨b, off, rfl, hcell⟩ := HX.out.addr (by omega)
      obtain ⟨hc0, hc1, hc2⟩ := hcell k hlt
      replace hc0 := HK.out.later hc0
      replace hc1 := HK.out.later hc1
      replace hc2 := HK.out.later hc2
      have HI := Lib.hid ((HX.out.isIn _ (List.getElem_mem hlt)).keeps HK.out)
      have HS := Lib.hid (mairTo_succ no xs k hlt)
      clear hcell
      have hmb := mairTo_le no xs k
      obtain ⟨M, hM⟩ : ∃ M, M = mairTo no xs k := ⟨_, rfl⟩
      rw [← hM] at HS hmb ⊢
      clear hM
      obtain ⟨x, hx⟩ : ∃ x, x = xs[k] := ⟨_, rfl⟩
      rw [← hx] at hc0 hc1 hc2 HI HS
      clear hx
      obtain ⟨xd, xe, xn, ds, es, ns⟩ := x
      have HD := Lib.hid HI.out.d
      have HE := Lib.hid HI.out.e
      have HN := Lib.hid HI.out.n
      clear HI
      simp only at hc0 hc1 hc2 HD HE HN HS
      obtain ⟨da, dc, rfl, hd1, hd2, hd3⟩ := HD.out.shape
      obtain ⟨ea, ec, rfl, he1, he2, he3⟩ := HE.out.shape
      obtain ⟨na, nc, rfl, hn1, hn2, hn3⟩ := HN.out.shape
      clear hd3 he3 hn3
      go_wp2_with fail
      have HB := Lib.hid (Box.new wr 71 #[.slice da ds.length dc, .slice ea es.length ec, .slice na ns.length nc])
      replace HM := Lib.hid (HM.out.next (.cells #[.slice da ds.length dc, .slice ea es.length ec, .slice na ns.length nc] 71))
      have HKX := Lib.hid ((Keeps.refl wr).alloc (.cells #[.slice da ds.length dc, .slice ea es.length ec, .slice na ns.length nc] 71))
      have hbne : ¬ w.heap.size = wr.heap.size := by omega
      clear hm0 hm7 hc0 hc1 hc2
      go_loopw [3, 6] (fun mv i ws => ∃ j : Nat, j ≤ ds.length ∧ i = .int .i64 j ∧ mv = .int .i64 (airTo no ds es M j) ∧ Hid (Box ws w.heap.size 25 #[.int .i64 no, .int .i64 sl, .int .i64 ga, .int .i64 wi, .int .i64 dr, .int .i64 de, cv, .slice (some ⟨b, off, none⟩) xs.length mc]) ∧ Hid (Box ws wr.heap.size 71 #[.slice da ds.length dc, .slice ea es.length ec, .slice na ns.length nc]) ∧ Hid (Keeps wr ws)) (fun _ i _ => ds.length - (intOf i).toNat)
      case atStart => exact ⟨0, by omega, rfl, rfl, HM, HB, HKX⟩
      case round =>
        clear HM HB HKX hml
        obtain ⟨j, hj, rfl, rfl, HM, HB, HKX⟩ := hrel
        have hme := airTo_le no ds es M hmb.2 j
        have HST : Hid (¬ ((j : Int) < no ∧ j < es.length) → airTo no ds es M j = airTo no ds es M ds.length) := fun h => by
          obtain ⟨q, hq⟩ : ∃ q, ds.length = j + q := ⟨ds.length - j, by omega⟩
          rw [hq]; exact (airTo_stop no ds es M j h q).symm
        obtain ⟨A, hA⟩ : ∃ A, A = airTo no ds es M j := ⟨_, rfl⟩
        have HSJ := Lib.hid (show airTo no ds es M (j + 1) = airStep no es j (ds.getD j 0) A by rw [hA]; rfl)
        rw [← hA] at hme HST ⊢
        have HA := Lib.hid hA
        clear hA
        have hm0 := HM.out.cell 0 _ rfl
        have hb0 := HB.out.cell 0 _ rfl
        have hb1 := HB.out.cell 1 _ rfl
        have hml := HM.out.lt
        have hbl := HB.out.lt
        by_cases hjlt : j < ds.length
        · obtain ⟨b2, off2, rfl, hdc, -⟩ := (HD.out.keeps HKX.out).shapeAt (by omega)
          have hdcell := hdc j hjlt
          clear hdc
          obtain ⟨d, hd⟩ : ∃ d, d = ds.getD j 0 := ⟨_, rfl⟩
          rw [← hd] at hdcell HSJ
          clear hd
          by_cases hin : (j : Int) < no ∧ j < es.length
          · have hi1 : decide ((j : Int) < no) = true := by simpa using hin.1
            have hi2 : decide ((j : Int) < (es.length : Int)) = true := by simpa using hin.2
            have hi3 : decide (j < es.length) = true := by simpa using hin.2
            have hjel := hin.2
            obtain ⟨b3, off3, rfl, hec, -⟩ := (HE.out.keeps HKX.out).boolAt' (by omega)
            have hecell := hec j hin.2
            clear hec
            have HIN := Lib.hid hin
            clear hin
            obtain ⟨eb, heb⟩ : ∃ eb, eb = es.getD j false := ⟨_, rfl⟩
            rw [← heb] at hecell
            have HEB := Lib.hid heb
            clear heb
            go_wp2_with fail
            clear hi1 hi2 hi3
            have c0 := HB.out.later 0 _ rfl
            have c1 := HB.out.later 1 _ rfl
            have c2 := fun q : Later wr => q.keeps.later hdcell
            have c3 := fun q : Later wr => q.keeps.later hecell
            have hkc := kindI_cases eb d
            have HY := Lib.hid (airStep_yes no es j d A HIN.out.1 HIN.out.2)
            have HZ := Lib.hid (airStep_0 no es j d A)
            rw [← HEB.out] at HY HZ
            obtain ⟨K, hK⟩ : ∃ K, kindI eb d = K := ⟨_, rfl⟩
            have HKD : Hid (∀ w : World, Calls Try.prog 77 #[.bool eb, .int .i64 d] w fun e w' => e = .returned (.int .i64 K) ∧ Keeps w w') := Lib.hid (by rw [← hK]; exact fun w => rkind_any eb d w)
            rw [hK] at hkc HY HZ
            clear hK
            have HKC := Lib.hid hkc
            clear hkc hdcell hecell hb0 hb1
            clear hm0 hml hbl
            refine wp_region_later (by kernel_rfl) (by kernel_rfl) ?_
            repeat (go_big_quiet_step (first
              | (go_at_call 77; with_reducible exact Later.calls _ (HKD.out _))
              | (go_at_call 76; with_reducible exact Later.calls _ (rsize_any K d _ (.inr HKC.out)))))
            refine wpQuiet_nil ?_
            rintro _ ⟨q, rfl⟩
            obtain ⟨wq, hwq⟩ := q
            simp only
            replace HM := Lib.hid (HM.out.keeps hwq)
            replace HB := Lib.hid (HB.out.keeps hwq)
            replace HKX := Lib.hid (HKX.out.trans hwq)
            clear c0 c1 c2 c3 hwq HKD
            have hsz := sizeI_le K d
            obtain ⟨S, hS⟩ : ∃ S, S = sizeI K d := ⟨_, rfl⟩
            rw [← hS] at hsz HY HZ ⊢
            clear hS
            by_cases h0 : 0 < S
            · have hd0 : decide (0 < S) = true := by simpa using h0
              go_wp2_with fail
              with_reducible refine (rair_any _ _ (by omega)).mono ?_
              rintro e v3 ⟨rfl, hk3⟩
              replace HM := Lib.hid (HM.out.keeps hk3)
              replace HB := Lib.hid (HB.out.keeps hk3)
              replace HKX := Lib.hid (HKX.out.trans hk3)
              clear hk3 hd0
              replace HY := Lib.hid (HY.out h0)
              have hal := airI_le S
              obtain ⟨R, hR⟩ : ∃ R, R = airI S := ⟨_, rfl⟩
              rw [← hR] at hal HY ⊢
              clear hR
              go_wp2_with fail
              go_roundw
              case rel => exact ⟨j + 1, by omega, by go_num, by rw [HSJ.out, HY.out, max_if], HM, HB, HKX⟩
              case measure => simp [intOf]; omega
            · have hd0 : decide (0 < S) = false := by simpa using h0
              replace HZ := Lib.hid (HZ.out (by omega))
              go_wp2_with fail
              go_roundw
              case rel => exact ⟨j + 1, by omega, by go_num, by rw [HSJ.out, HZ.out], HM, HB, HKX⟩
              case measure => simp [intOf]; omega
          · have HZ := Lib.hid (airStep_no no es j d A hin)
            replace HST := Lib.hid (HST.out hin)
            have HK2 := Lib.hid (HK.out.trans HKX.out)
            by_cases hin1 : j < es.length
            · have hi1 : decide ((j : Int) < no) = false := by simp; omega
              have hi2 : decide ((j : Int) < (es.length : Int)) = true := by simpa using hin1
              have hi3 : decide (j < es.length) = true := by simpa using hin1
              clear hin
              go_wp2_with fail
              go_roundw
              case rel => exact ⟨k + 1, by omega, by go_num, by rw [HS.out, HST.out], HM, HK2⟩
              case measure => simp [intOf]; omega
            · have hi2 : decide ((j : Int) < (es.length : Int)) = false := by simpa using hin1
              have hi3 : decide (j < es.length) = false := by simpa using hin1
              clear hin
              go_wp2_with fail
              go_roundw
              case rel => exact ⟨k + 1, by omega, by go_num, by rw [HS.out, HST.out], HM, HK2⟩
              case measure => simp [intOf]; omega
        · obtain rfl : j = ds.length := by omega
          have HK2 := Lib.hid (HK.out.trans HKX.out)
          go_wp2_with fail
          go_roundw
          case rel => exact ⟨k + 1, by omega, by go_num, by rw [HS.out, HA.out], HM, HK2⟩
          case measure => simp [intOf]; omega
    · obtain rfl : k = xs.length := by omega
      go_wp2_with fail
      go_ret
      exact ⟨rfl, HK.out⟩
end Go.Proofs.Ytmjodcackmjllaa
