/- The walk of CstateRound. -/
import Derived.Test.YtdjbalaicfienaaC14
import Derived.Test.YtdjbalaicfienaaC7
import Derived.Test.YtdjbalaicfienaaC10
import Derived.Test.YtdjbalaicfienaaLater
import Derived.Deep.RegionHeld3
namespace Go.Proofs.Ytdjbalaicfienaa
open Go.RowKit
set_option linter.unusedVariables false
set_option linter.unusedSimpArgs false
attribute [local go_sem ↓ high] eqCS

set_option maxHeartbeats 2000000 in
set_option maxRecDepth 100000 in
theorem cround_no (c : CS) (n node : Int) (w : World) (e0 : Int) (he : csErr c n = e0) (h0 : (e0 != 0) = true) :
    Calls Try.prog 5 #[c.val, .int .i64 n, .int .i64 node] w fun e w' => e = .returned (.bool true) ∧ Keeps w w' := by
  obtain ⟨t, p, m, x, b⟩ := c
  have HE := Lib.hid he
  clear he
  show Calls Try.prog 5 #[.agg #[.int .i64 t, .int .i64 p, .int .i64 m, .int .i64 x, .int .i64 b], .int .i64 n, .int .i64 node] w _
  go_enter Try.func5, Try.ntmps5
  go_wp2_with fail
  with_reducible refine (begun4_any _).mono ?_
  rintro e w1 ⟨rfl, hk1⟩
  have ha := (Box.new w 23 #[.int .i64 t, .int .i64 p, .int .i64 m, .int .i64 x, .int .i64 b]).keeps hk1
  have a0 := ha.cell 0 _ rfl
  have a1 := ha.cell 1 _ rfl
  have a2 := ha.cell 2 _ rfl
  have a3 := ha.cell 3 _ rfl
  have a4 := ha.cell 4 _ rfl
  have hal := ha.lt
  have HK := Lib.hid (((Keeps.refl w).alloc _).trans hk1)
  clear hk1 ha
  go_wp2_with fail
  with_reducible refine (ccheck_any ⟨t, p, m, x, b⟩ n _).mono ?_
  rw [HE.out]
  rintro e w2 ⟨rfl, hk2⟩
  replace HK := Lib.hid (HK.out.trans hk2)
  clear hk2 a0 a1 a2 a3 a4 hal
  go_wp2_with fail
  with_reducible refine (begun4_any _).mono ?_
  rintro e w3 ⟨rfl, hk3⟩
  replace HK := Lib.hid (HK.out.trans hk3)
  clear hk3
  go_wp2_with fail
  go_ret
  exact ⟨rfl, HK.out⟩

set_option maxHeartbeats 4000000 in
set_option maxRecDepth 100000 in
theorem cround_ok (c : CS) (n node : Int) (w : World) (hn : csN n = true) (hc : csOk c n = true) :
    Calls Try.prog 5 #[c.val, .int .i64 n, .int .i64 node] w fun e w' => e = .returned (.bool true) ∧ Keeps w w' := by
  obtain ⟨t, p, m, x, b⟩ := c
  have h48 := (csN_iff n).1 hn
  obtain ⟨nn, rfl⟩ := Int.eq_ofNat_of_zero_le (show 0 ≤ n by omega)
  have HN := Lib.hid hn
  have HC := Lib.hid hc
  have HE := Lib.hid (csErr_yes hn hc)
  clear hn hc
  show Calls Try.prog 5 #[.agg #[.int .i64 t, .int .i64 p, .int .i64 m, .int .i64 x, .int .i64 b], .int .i64 nn, .int .i64 node] w _
  go_enter Try.func5, Try.ntmps5
  go_wp2_with fail
  with_reducible refine (begun4_any _).mono ?_
  rintro e w1 ⟨rfl, hk1⟩
  have ha := (Box.new w 23 #[.int .i64 t, .int .i64 p, .int .i64 m, .int .i64 x, .int .i64 b]).keeps hk1
  have HA := Lib.hid ha
  have a0 := ha.cell 0 _ rfl
  have a1 := ha.cell 1 _ rfl
  have a2 := ha.cell 2 _ rfl
  have a3 := ha.cell 3 _ rfl
  have a4 := ha.cell 4 _ rfl
  have hal := ha.lt
  have HK := Lib.hid (((Keeps.refl w).alloc _).trans hk1)
  clear hk1 ha
  go_wp2_with fail
  with_reducible refine (ccheck_any ⟨t, p, m, x, b⟩ nn _).mono ?_
  rw [HE.out]
  rintro e w2 ⟨rfl, hk2⟩
  replace HK := Lib.hid (HK.out.trans hk2)
  replace HA := Lib.hid (HA.out.keeps hk2)
  clear hk2 a0 a1 a2 a3 a4 hal
  have a0 := HA.out.cell 0 _ rfl
  have a1 := HA.out.cell 1 _ rfl
  have a2 := HA.out.cell 2 _ rfl
  have a3 := HA.out.cell 3 _ rfl
  have a4 := HA.out.cell 4 _ rfl
  have hal := HA.out.lt
  go_wp2_with fail
  have HX := Lib.hid (Box.new w2 23 #[.int .i64 t, .int .i64 p, .int .i64 m, .int .i64 x, .int .i64 b])
  have HAL := Lib.hid (HA.out.next (.cells #[.int .i64 t, .int .i64 p, .int .i64 m, .int .i64 x, .int .i64 b] 23))
  have HKL := Lib.hid (HK.out.alloc (.cells #[.int .i64 t, .int .i64 p, .int .i64 m, .int .i64 x, .int .i64 b] 23))
  have hsz2 := HK.out.size
  clear a0 a1 a2 a3 a4
  go_loopw [24] (fun i wr => ∃ (k : Nat) (s : CS), k ≤ nn ∧ i = .int .i64 k ∧ Hid (s = stepTo ⟨t, p, m, x, b⟩ nn k) ∧ Hid (Box wr w2.heap.size 23 #[.int .i64 s.t, .int .i64 s.p, .int .i64 s.m, .int .i64 s.x, .int .i64 s.b]) ∧ Hid (Box wr w.heap.size 23 #[.int .i64 t, .int .i64 p, .int .i64 m, .int .i64 x, .int .i64 b]) ∧ Hid (Keeps w wr)) (fun i _ => nn - (intOf i).toNat)
  case atStart => exact ⟨0, ⟨t, p, m, x, b⟩, by omega, rfl, Lib.hid (stepTo_zero HC.out).symm, HX, HAL, HKL⟩
  case round =>
    clear HA HK HX HAL HKL
    obtain ⟨k, s, hk, rfl, HS, HX, HA, HK⟩ := hrel
    obtain ⟨t1, p1, m1, x1, b1⟩ := s
    have hxl := HX.out.lt
    have hal := HA.out.lt
    have hx0 := HX.out.cell 0 _ rfl
    have hx1 := HX.out.cell 1 _ rfl
    have hx2 := HX.out.cell 2 _ rfl
    have hx3 := HX.out.cell 3 _ rfl
    have hx4 := HX.out.cell 4 _ rfl
    have ha0 := HA.out.cell 0 _ rfl
    have ha1 := HA.out.cell 1 _ rfl
    have ha2 := HA.out.cell 2 _ rfl
    have ha3 := HA.out.cell 3 _ rfl
    have ha4 := HA.out.cell 4 _ rfl
    have hxf := HX.out.frozen
    by_cases hlt : k < nn
    · have hlt' : (k : Int) < nn := by omega
      obtain ⟨⟨t2, p2, m2, x2, b2⟩, hs2⟩ : ∃ s, s = stepTo ⟨t, p, m, x, b⟩ nn ((k : Int) + 1) := ⟨_, rfl⟩
      have HS2 := Lib.hid hs2
      have HO1 : Hid (csOk ⟨t1, p1, m1, x1, b1⟩ nn = true) := Lib.hid (by rw [HS.out]; exact stepTo_ok HC.out (by omega) (by omega))
      have HO2 : Hid (csOk ⟨t2, p2, m2, x2, b2⟩ nn = true) := Lib.hid (by rw [HS2.out]; exact stepTo_ok HC.out (by omega) (by omega))
      have HST : Hid (csStep ⟨t1, p1, m1, x1, b1⟩ nn = ⟨t2, p2, m2, x2, b2⟩) := Lib.hid (by rw [HS.out, HS2.out]; exact stepTo_step HC.out HN.out (by omega) (by omega))
      clear hs2
      go_wp2_with fail
      with_reducible refine (cstep_any ⟨t1, p1, m1, x1, b1⟩ nn _).mono ?_
      rw [stepRes_yes HN.out HO1.out, HST.out]
      rintro e w3 ⟨rfl, hk3⟩
      replace HX := Lib.hid (HX.out.keeps hk3)
      replace HA := Lib.hid (HA.out.keeps hk3)
      replace HK := Lib.hid (HK.out.trans hk3)
      clear hk3 hx0 hx1 hx2 hx3 hx4 ha0 ha1 ha2 ha3 ha4 hxl hal hxf
      have hxl := HX.out.lt
      have hal := HA.out.lt
      go_wp2_with fail
      with_reducible refine (ccheck_any ⟨t2, p2, m2, x2, b2⟩ nn _).mono ?_
      rw [csErr_yes HN.out HO2.out]
      rintro e w4 ⟨rfl, hk4⟩
      have HY := Lib.hid ((Box.new w3 23 #[.int .i64 t2, .int .i64 p2, .int .i64 m2, .int .i64 x2, .int .i64 b2]).keeps hk4)
      replace HX := Lib.hid ((HX.out.next _).keeps hk4)
      replace HA := Lib.hid ((HA.out.next _).keeps hk4)
      replace HK := Lib.hid ((HK.out.alloc _).trans hk4)
      clear hk4
      have hyl := HY.out.lt
      have hxl4 := HX.out.lt
      have hal4 := HA.out.lt
      have hx0 := HX.out.cell 0 _ rfl
      have hx1 := HX.out.cell 1 _ rfl
      have hx2 := HX.out.cell 2 _ rfl
      have hx3 := HX.out.cell 3 _ rfl
      have hx4 := HX.out.cell 4 _ rfl
      have ha0 := HA.out.cell 0 _ rfl
      have ha1 := HA.out.cell 1 _ rfl
      have ha2 := HA.out.cell 2 _ rfl
      have ha3 := HA.out.cell 3 _ rfl
      have ha4 := HA.out.cell 4 _ rfl
      have hy0 := HY.out.cell 0 _ rfl
      have hy1 := HY.out.cell 1 _ rfl
      have hy2 := HY.out.cell 2 _ rfl
      have hy3 := HY.out.cell 3 _ rfl
      have hy4 := HY.out.cell 4 _ rfl
      go_wp2_with fail
      with_reducible refine (cslots_any ⟨t1, p1, m1, x1, b1⟩ ⟨t2, p2, m2, x2, b2⟩ nn _).mono ?_
      rw [slotsRes_yes HN.out HO1.out HO2.out, ← HST.out, slots_step HO1.out HN.out, HST.out]
      rintro e w5 ⟨rfl, hk5⟩
      replace HX := Lib.hid (HX.out.keeps hk5)
      replace HA := Lib.hid (HA.out.keeps hk5)
      replace HY := Lib.hid (HY.out.keeps hk5)
      replace HK := Lib.hid (HK.out.trans hk5)
      have hsz5 := hk5.size
      clear hk5 hx0 hx1 hx2 hx3 hx4 ha0 ha1 ha2 ha3 ha4 hy0 hy1 hy2 hy3 hy4
      have hx0 := HX.out.cell 0 _ rfl
      have hx1 := HX.out.cell 1 _ rfl
      have hx2 := HX.out.cell 2 _ rfl
      have hx3 := HX.out.cell 3 _ rfl
      have hx4 := HX.out.cell 4 _ rfl
      have ha0 := HA.out.cell 0 _ rfl
      have ha1 := HA.out.cell 1 _ rfl
      have ha2 := HA.out.cell 2 _ rfl
      have ha3 := HA.out.cell 3 _ rfl
      have ha4 := HA.out.cell 4 _ rfl
      have hy0 := HY.out.cell 0 _ rfl
      have hy1 := HY.out.cell 1 _ rfl
      have hy2 := HY.out.cell 2 _ rfl
      have hy3 := HY.out.cell 3 _ rfl
      have hy4 := HY.out.cell 4 _ rfl
      have hxf := HX.out.frozen
      have hxl5 := HX.out.lt
      have hwk : IntKind.i64.wrap ((k : Int) + 1) = (k : Int) + 1 := IntWalk.i64_in _ (by omega)
      go_wp2_with fail
      go_roundw
      case rel =>
        refine ⟨k + 1, ⟨t2, p2, m2, x2, b2⟩, by omega, by go_num, ?_, ?_, ?_, ?_⟩
        · exact Lib.hid (by rw [HS2.out]; push_cast; rfl)
        · exact Lib.hid (Box.putP (Box.putP (Box.putP (Box.putP (Box.putP HX.out 0 _) 1 _) 2 _) 3 _) 4 _)
        · exact Lib.hid (((((HA.out.keepsBut (KeepsBut.setCell _ w2.heap.size _ _) (by omega)).keepsBut (KeepsBut.setCell _ w2.heap.size _ _) (by omega)).keepsBut (KeepsBut.setCell _ w2.heap.size _ _) (by omega)).keepsBut (KeepsBut.setCell _ w2.heap.size _ _) (by omega)).keepsBut (KeepsBut.setCell _ w2.heap.size _ _) (by omega))
        · exact Lib.hid (((((HK.out.setCell hsz2 _).setCell hsz2 _).setCell hsz2 _).setCell hsz2 _).setCell hsz2 _)
      case measure => simp [intOf]; omega
    · obtain rfl : k = nn := by omega
      have hs1 := HS.out.trans (stepTo_all HC.out)
      obtain ⟨g1, g2, g3, g4, g5, g6, g7, g8, -⟩ := (csOk_iff _ _).1 HC.out
      simp only at g1 g2 g3 g4 g5 g6 g7 g8
      have ht1 : IntKind.i64.wrap (t + 1) = t + 1 := IntWalk.i64_in _ (by omega)
      have hta : (t + 1).tmod 256 = (t + 1) % 256 := Int.tmod_eq_emod_of_nonneg (by omega)
      have htb : IntKind.i64.wrap ((t + 1) % 256) = (t + 1) % 256 := IntWalk.i64_in _ (by omega)
      have hxm : IntKind.i64.wrap (x - 1) = x - 1 := IntWalk.i64_in _ (by omega)
      clear HS hx0 hx1 hx2 hx3 hx4 hlt hk hxf
      by_cases hxx : x = 0
      · have hd : decide (0 < x) = false := by simp; omega
        have hmo : modeOf ⟨t, p, m, x, b⟩ = m := by unfold modeOf; rw [if_pos hxx]
        rw [hmo] at hs1
        obtain ⟨rfl, rfl, rfl, rfl, rfl⟩ := CS.mk.inj hs1
        have HXB : Hid (Box wr w2.heap.size 23 #[.int .i64 ((t + 1) % 256), .int .i64 p1, .int .i64 (m1), .int .i64 0, .int .i64 b1]) := HX
        clear HX hs1 hmo g1 g2 g3 g4 g5 g6 g7 g8 hxx
        have hx0 := HXB.out.cell 0 _ rfl
        have hx1 := HXB.out.cell 1 _ rfl
        have hx2 := HXB.out.cell 2 _ rfl
        have hx3 := HXB.out.cell 3 _ rfl
        have hx4 := HXB.out.cell 4 _ rfl
        by_cases hn0 : 0 ≤ node
        · have hdn : decide (0 ≤ node) = true := by simpa using hn0
          by_cases hnn : node < (k : Int)
          · have hdk : decide (node < (k : Int)) = true := by simpa using hnn
            obtain ⟨f1, f2, f3, f4⟩ := mem_facts HN.out HC.out hn0 hnn
            have F1 := Lib.hid f1
            have F2 := Lib.hid f2
            have F3 := Lib.hid f3
            have F4 := Lib.hid f4
            clear f1 f2 f3 f4 hn0 hnn
            go_wp2_with fail
            with_reducible refine (cwith_any ⟨t, p1, m1, x, b1⟩ node _).mono ?_
            rintro e w10 ⟨rfl, hk10⟩
            replace HXB := Lib.hid (HXB.out.keeps hk10)
            replace HA := Lib.hid (HA.out.keeps hk10)
            replace HK := Lib.hid (HK.out.trans hk10)
            clear hk10 hx0 hx1 hx2 hx3 hx4 ha0 ha1 ha2 ha3 ha4
            have hx0 := HXB.out.cell 0 _ rfl
            have hx1 := HXB.out.cell 1 _ rfl
            have hx2 := HXB.out.cell 2 _ rfl
            have hx3 := HXB.out.cell 3 _ rfl
            have hx4 := HXB.out.cell 4 _ rfl
            have ha0 := HA.out.cell 0 _ rfl
            have ha1 := HA.out.cell 1 _ rfl
            have ha2 := HA.out.cell 2 _ rfl
            have ha3 := HA.out.cell 3 _ rfl
            have ha4 := HA.out.cell 4 _ rfl
            go_wp2_with fail
            with_reducible refine (ccheck_any (withOf ⟨t, p1, m1, x, b1⟩ node) k _).mono ?_
            rw [csErr_yes HN.out F1.out]
            rintro e w11 ⟨rfl, hk11⟩
            replace HXB := Lib.hid (HXB.out.keeps hk11)
            replace HA := Lib.hid (HA.out.keeps hk11)
            replace HK := Lib.hid (HK.out.trans hk11)
            clear hk11 hx0 hx1 hx2 hx3 hx4 ha0 ha1 ha2 ha3 ha4
            have hx0 := HXB.out.cell 0 _ rfl
            have hx1 := HXB.out.cell 1 _ rfl
            have hx2 := HXB.out.cell 2 _ rfl
            have hx3 := HXB.out.cell 3 _ rfl
            have hx4 := HXB.out.cell 4 _ rfl
            have ha0 := HA.out.cell 0 _ rfl
            have ha1 := HA.out.cell 1 _ rfl
            have ha2 := HA.out.cell 2 _ rfl
            have ha3 := HA.out.cell 3 _ rfl
            have ha4 := HA.out.cell 4 _ rfl
            go_wp2_with fail
            with_reducible refine (cwithout_any ⟨t, p1, m1, x, b1⟩ node _).mono ?_
            rintro e w12 ⟨rfl, hk12⟩
            replace HXB := Lib.hid (HXB.out.keeps hk12)
            replace HA := Lib.hid (HA.out.keeps hk12)
            replace HK := Lib.hid (HK.out.trans hk12)
            clear hk12 hx0 hx1 hx2 hx3 hx4 ha0 ha1 ha2 ha3 ha4
            have hx0 := HXB.out.cell 0 _ rfl
            have hx1 := HXB.out.cell 1 _ rfl
            have hx2 := HXB.out.cell 2 _ rfl
            have hx3 := HXB.out.cell 3 _ rfl
            have hx4 := HXB.out.cell 4 _ rfl
            have ha0 := HA.out.cell 0 _ rfl
            have ha1 := HA.out.cell 1 _ rfl
            have ha2 := HA.out.cell 2 _ rfl
            have ha3 := HA.out.cell 3 _ rfl
            have ha4 := HA.out.cell 4 _ rfl
            go_wp2_with fail
            with_reducible refine (ccheck_any (withoutOf ⟨t, p1, m1, x, b1⟩ node) k _).mono ?_
            rw [csErr_yes HN.out F2.out]
            rintro e w13 ⟨rfl, hk13⟩
            replace HXB := Lib.hid (HXB.out.keeps hk13)
            replace HA := Lib.hid (HA.out.keeps hk13)
            replace HK := Lib.hid (HK.out.trans hk13)
            clear hk13 hx0 hx1 hx2 hx3 hx4 ha0 ha1 ha2 ha3 ha4
            have hx0 := HXB.out.cell 0 _ rfl
            have hx1 := HXB.out.cell 1 _ rfl
            have hx2 := HXB.out.cell 2 _ rfl
            have hx3 := HXB.out.cell 3 _ rfl
            have hx4 := HXB.out.cell 4 _ rfl
            have ha0 := HA.out.cell 0 _ rfl
            have ha1 := HA.out.cell 1 _ rfl
            have ha2 := HA.out.cell 2 _ rfl
            have ha3 := HA.out.cell 3 _ rfl
            have ha4 := HA.out.cell 4 _ rfl
            go_wp2_with fail
            with_reducible refine (cwith_any ⟨t, p1, m1, x, b1⟩ node _).mono ?_
            rintro e w14 ⟨rfl, hk14⟩
            replace HXB := Lib.hid (HXB.out.keeps hk14)
            replace HA := Lib.hid (HA.out.keeps hk14)
            replace HK := Lib.hid (HK.out.trans hk14)
            clear hk14 hx0 hx1 hx2 hx3 hx4 ha0 ha1 ha2 ha3 ha4
            have hx0 := HXB.out.cell 0 _ rfl
            have hx1 := HXB.out.cell 1 _ rfl
            have hx2 := HXB.out.cell 2 _ rfl
            have hx3 := HXB.out.cell 3 _ rfl
            have hx4 := HXB.out.cell 4 _ rfl
            have ha0 := HA.out.cell 0 _ rfl
            have ha1 := HA.out.cell 1 _ rfl
            have ha2 := HA.out.cell 2 _ rfl
            have ha3 := HA.out.cell 3 _ rfl
            have ha4 := HA.out.cell 4 _ rfl
            go_wp2_with fail
            with_reducible refine (chas_any (withOf ⟨t, p1, m1, x, b1⟩ node) node _).mono ?_
            rw [F3.out]
            rintro e w15 ⟨rfl, hk15⟩
            replace HXB := Lib.hid (HXB.out.keeps hk15)
            replace HA := Lib.hid (HA.out.keeps hk15)
            replace HK := Lib.hid (HK.out.trans hk15)
            clear hk15 hx0 hx1 hx2 hx3 hx4 ha0 ha1 ha2 ha3 ha4
            have hx0 := HXB.out.cell 0 _ rfl
            have hx1 := HXB.out.cell 1 _ rfl
            have hx2 := HXB.out.cell 2 _ rfl
            have hx3 := HXB.out.cell 3 _ rfl
            have hx4 := HXB.out.cell 4 _ rfl
            have ha0 := HA.out.cell 0 _ rfl
            have ha1 := HA.out.cell 1 _ rfl
            have ha2 := HA.out.cell 2 _ rfl
            have ha3 := HA.out.cell 3 _ rfl
            have ha4 := HA.out.cell 4 _ rfl
            go_wp2_with fail
            with_reducible refine (cwithout_any ⟨t, p1, m1, x, b1⟩ node _).mono ?_
            rintro e w16 ⟨rfl, hk16⟩
            replace HXB := Lib.hid (HXB.out.keeps hk16)
            replace HA := Lib.hid (HA.out.keeps hk16)
            replace HK := Lib.hid (HK.out.trans hk16)
            clear hk16 hx0 hx1 hx2 hx3 hx4 ha0 ha1 ha2 ha3 ha4
            have hx0 := HXB.out.cell 0 _ rfl
            have hx1 := HXB.out.cell 1 _ rfl
            have hx2 := HXB.out.cell 2 _ rfl
            have hx3 := HXB.out.cell 3 _ rfl
            have hx4 := HXB.out.cell 4 _ rfl
            have ha0 := HA.out.cell 0 _ rfl
            have ha1 := HA.out.cell 1 _ rfl
            have ha2 := HA.out.cell 2 _ rfl
            have ha3 := HA.out.cell 3 _ rfl
            have ha4 := HA.out.cell 4 _ rfl
            go_wp2_with fail
            with_reducible refine (chas_any (withoutOf ⟨t, p1, m1, x, b1⟩ node) node _).mono ?_
            rw [F4.out]
            rintro e w17 ⟨rfl, hk17⟩
            replace HXB := Lib.hid (HXB.out.keeps hk17)
            replace HA := Lib.hid (HA.out.keeps hk17)
            replace HK := Lib.hid (HK.out.trans hk17)
            clear hk17 hx0 hx1 hx2 hx3 hx4 ha0 ha1 ha2 ha3 ha4
            have hx0 := HXB.out.cell 0 _ rfl
            have hx1 := HXB.out.cell 1 _ rfl
            have hx2 := HXB.out.cell 2 _ rfl
            have hx3 := HXB.out.cell 3 _ rfl
            have hx4 := HXB.out.cell 4 _ rfl
            have ha0 := HA.out.cell 0 _ rfl
            have ha1 := HA.out.cell 1 _ rfl
            have ha2 := HA.out.cell 2 _ rfl
            have ha3 := HA.out.cell 3 _ rfl
            have ha4 := HA.out.cell 4 _ rfl
            go_wp2_with fail
            go_ret
            exact ⟨rfl, HK.out⟩
          · have hdk : decide (node < (k : Int)) = false := by simpa using hnn
            clear hn0 hnn
            go_wp2_with fail
            go_ret
            exact ⟨rfl, HK.out⟩
        · have hdn : decide (0 ≤ node) = false := by simpa using hn0
          clear hn0
          go_wp2_with fail
          go_ret
          exact ⟨rfl, HK.out⟩
      · have hd : decide (0 < x) = true := by simp; omega
        have hmo : modeOf ⟨t, p, m, x, b⟩ = x - 1 := by unfold modeOf; rw [if_neg hxx]
        rw [hmo] at hs1
        obtain ⟨rfl, rfl, rfl, rfl, rfl⟩ := CS.mk.inj hs1
        have HXB : Hid (Box wr w2.heap.size 23 #[.int .i64 ((t + 1) % 256), .int .i64 p1, .int .i64 (x - 1), .int .i64 0, .int .i64 b1]) := HX
        clear HX hs1 hmo g1 g2 g3 g4 g5 g6 g7 g8 hxx
        have hx0 := HXB.out.cell 0 _ rfl
        have hx1 := HXB.out.cell 1 _ rfl
        have hx2 := HXB.out.cell 2 _ rfl
        have hx3 := HXB.out.cell 3 _ rfl
        have hx4 := HXB.out.cell 4 _ rfl
        by_cases hn0 : 0 ≤ node
        · have hdn : decide (0 ≤ node) = true := by simpa using hn0
          by_cases hnn : node < (k : Int)
          · have hdk : decide (node < (k : Int)) = true := by simpa using hnn
            obtain ⟨f1, f2, f3, f4⟩ := mem_facts HN.out HC.out hn0 hnn
            have F1 := Lib.hid f1
            have F2 := Lib.hid f2
            have F3 := Lib.hid f3
            have F4 := Lib.hid f4
            clear f1 f2 f3 f4 hn0 hnn
            go_wp2_with fail
            with_reducible refine (cwith_any ⟨t, p1, m, x, b1⟩ node _).mono ?_
            rintro e w10 ⟨rfl, hk10⟩
            replace HXB := Lib.hid (HXB.out.keeps hk10)
            replace HA := Lib.hid (HA.out.keeps hk10)
            replace HK := Lib.hid (HK.out.trans hk10)
            clear hk10 hx0 hx1 hx2 hx3 hx4 ha0 ha1 ha2 ha3 ha4
            have hx0 := HXB.out.cell 0 _ rfl
            have hx1 := HXB.out.cell 1 _ rfl
            have hx2 := HXB.out.cell 2 _ rfl
            have hx3 := HXB.out.cell 3 _ rfl
            have hx4 := HXB.out.cell 4 _ rfl
            have ha0 := HA.out.cell 0 _ rfl
            have ha1 := HA.out.cell 1 _ rfl
            have ha2 := HA.out.cell 2 _ rfl
            have ha3 := HA.out.cell 3 _ rfl
            have ha4 := HA.out.cell 4 _ rfl
            go_wp2_with fail
            with_reducible refine (ccheck_any (withOf ⟨t, p1, m, x, b1⟩ node) k _).mono ?_
            rw [csErr_yes HN.out F1.out]
            rintro e w11 ⟨rfl, hk11⟩
            replace HXB := Lib.hid (HXB.out.keeps hk11)
            replace HA := Lib.hid (HA.out.keeps hk11)
            replace HK := Lib.hid (HK.out.trans hk11)
            clear hk11 hx0 hx1 hx2 hx3 hx4 ha0 ha1 ha2 ha3 ha4
            have hx0 := HXB.out.cell 0 _ rfl
            have hx1 := HXB.out.cell 1 _ rfl
            have hx2 := HXB.out.cell 2 _ rfl
            have hx3 := HXB.out.cell 3 _ rfl
            have hx4 := HXB.out.cell 4 _ rfl
            have ha0 := HA.out.cell 0 _ rfl
            have ha1 := HA.out.cell 1 _ rfl
            have ha2 := HA.out.cell 2 _ rfl
            have ha3 := HA.out.cell 3 _ rfl
            have ha4 := HA.out.cell 4 _ rfl
            go_wp2_with fail
            with_reducible refine (cwithout_any ⟨t, p1, m, x, b1⟩ node _).mono ?_
            rintro e w12 ⟨rfl, hk12⟩
            replace HXB := Lib.hid (HXB.out.keeps hk12)
            replace HA := Lib.hid (HA.out.keeps hk12)
            replace HK := Lib.hid (HK.out.trans hk12)
            clear hk12 hx0 hx1 hx2 hx3 hx4 ha0 ha1 ha2 ha3 ha4
            have hx0 := HXB.out.cell 0 _ rfl
            have hx1 := HXB.out.cell 1 _ rfl
            have hx2 := HXB.out.cell 2 _ rfl
            have hx3 := HXB.out.cell 3 _ rfl
            have hx4 := HXB.out.cell 4 _ rfl
            have ha0 := HA.out.cell 0 _ rfl
            have ha1 := HA.out.cell 1 _ rfl
            have ha2 := HA.out.cell 2 _ rfl
            have ha3 := HA.out.cell 3 _ rfl
            have ha4 := HA.out.cell 4 _ rfl
            go_wp2_with fail
            with_reducible refine (ccheck_any (withoutOf ⟨t, p1, m, x, b1⟩ node) k _).mono ?_
            rw [csErr_yes HN.out F2.out]
            rintro e w13 ⟨rfl, hk13⟩
            replace HXB := Lib.hid (HXB.out.keeps hk13)
            replace HA := Lib.hid (HA.out.keeps hk13)
            replace HK := Lib.hid (HK.out.trans hk13)
            clear hk13 hx0 hx1 hx2 hx3 hx4 ha0 ha1 ha2 ha3 ha4
            have hx0 := HXB.out.cell 0 _ rfl
            have hx1 := HXB.out.cell 1 _ rfl
            have hx2 := HXB.out.cell 2 _ rfl
            have hx3 := HXB.out.cell 3 _ rfl
            have hx4 := HXB.out.cell 4 _ rfl
            have ha0 := HA.out.cell 0 _ rfl
            have ha1 := HA.out.cell 1 _ rfl
            have ha2 := HA.out.cell 2 _ rfl
            have ha3 := HA.out.cell 3 _ rfl
            have ha4 := HA.out.cell 4 _ rfl
            go_wp2_with fail
            with_reducible refine (cwith_any ⟨t, p1, m, x, b1⟩ node _).mono ?_
            rintro e w14 ⟨rfl, hk14⟩
            replace HXB := Lib.hid (HXB.out.keeps hk14)
            replace HA := Lib.hid (HA.out.keeps hk14)
            replace HK := Lib.hid (HK.out.trans hk14)
            clear hk14 hx0 hx1 hx2 hx3 hx4 ha0 ha1 ha2 ha3 ha4
            have hx0 := HXB.out.cell 0 _ rfl
            have hx1 := HXB.out.cell 1 _ rfl
            have hx2 := HXB.out.cell 2 _ rfl
            have hx3 := HXB.out.cell 3 _ rfl
            have hx4 := HXB.out.cell 4 _ rfl
            have ha0 := HA.out.cell 0 _ rfl
            have ha1 := HA.out.cell 1 _ rfl
            have ha2 := HA.out.cell 2 _ rfl
            have ha3 := HA.out.cell 3 _ rfl
            have ha4 := HA.out.cell 4 _ rfl
            go_wp2_with fail
            with_reducible refine (chas_any (withOf ⟨t, p1, m, x, b1⟩ node) node _).mono ?_
            rw [F3.out]
            rintro e w15 ⟨rfl, hk15⟩
            replace HXB := Lib.hid (HXB.out.keeps hk15)
            replace HA := Lib.hid (HA.out.keeps hk15)
            replace HK := Lib.hid (HK.out.trans hk15)
            clear hk15 hx0 hx1 hx2 hx3 hx4 ha0 ha1 ha2 ha3 ha4
            have hx0 := HXB.out.cell 0 _ rfl
            have hx1 := HXB.out.cell 1 _ rfl
            have hx2 := HXB.out.cell 2 _ rfl
            have hx3 := HXB.out.cell 3 _ rfl
            have hx4 := HXB.out.cell 4 _ rfl
            have ha0 := HA.out.cell 0 _ rfl
            have ha1 := HA.out.cell 1 _ rfl
            have ha2 := HA.out.cell 2 _ rfl
            have ha3 := HA.out.cell 3 _ rfl
            have ha4 := HA.out.cell 4 _ rfl
            go_wp2_with fail
            with_reducible refine (cwithout_any ⟨t, p1, m, x, b1⟩ node _).mono ?_
            rintro e w16 ⟨rfl, hk16⟩
            replace HXB := Lib.hid (HXB.out.keeps hk16)
            replace HA := Lib.hid (HA.out.keeps hk16)
            replace HK := Lib.hid (HK.out.trans hk16)
            clear hk16 hx0 hx1 hx2 hx3 hx4 ha0 ha1 ha2 ha3 ha4
            have hx0 := HXB.out.cell 0 _ rfl
            have hx1 := HXB.out.cell 1 _ rfl
            have hx2 := HXB.out.cell 2 _ rfl
            have hx3 := HXB.out.cell 3 _ rfl
            have hx4 := HXB.out.cell 4 _ rfl
            have ha0 := HA.out.cell 0 _ rfl
            have ha1 := HA.out.cell 1 _ rfl
            have ha2 := HA.out.cell 2 _ rfl
            have ha3 := HA.out.cell 3 _ rfl
            have ha4 := HA.out.cell 4 _ rfl
            go_wp2_with fail
            with_reducible refine (chas_any (withoutOf ⟨t, p1, m, x, b1⟩ node) node _).mono ?_
            rw [F4.out]
            rintro e w17 ⟨rfl, hk17⟩
            replace HXB := Lib.hid (HXB.out.keeps hk17)
            replace HA := Lib.hid (HA.out.keeps hk17)
            replace HK := Lib.hid (HK.out.trans hk17)
            clear hk17 hx0 hx1 hx2 hx3 hx4 ha0 ha1 ha2 ha3 ha4
            have hx0 := HXB.out.cell 0 _ rfl
            have hx1 := HXB.out.cell 1 _ rfl
            have hx2 := HXB.out.cell 2 _ rfl
            have hx3 := HXB.out.cell 3 _ rfl
            have hx4 := HXB.out.cell 4 _ rfl
            have ha0 := HA.out.cell 0 _ rfl
            have ha1 := HA.out.cell 1 _ rfl
            have ha2 := HA.out.cell 2 _ rfl
            have ha3 := HA.out.cell 3 _ rfl
            have ha4 := HA.out.cell 4 _ rfl
            go_wp2_with fail
            go_ret
            exact ⟨rfl, HK.out⟩
          · have hdk : decide (node < (k : Int)) = false := by simpa using hnn
            clear hn0 hnn
            go_wp2_with fail
            go_ret
            exact ⟨rfl, HK.out⟩
        · have hdn : decide (0 ≤ node) = false := by simpa using hn0
          clear hn0
          go_wp2_with fail
          go_ret
          exact ⟨rfl, HK.out⟩
theorem cround_any (c : CS) (n node : Int) (w : World) :
    Calls Try.prog 5 #[c.val, .int .i64 n, .int .i64 node] w fun e w' => e = .returned (.bool true) ∧ Keeps w w' := by
  rcases csErr_cases c n with ⟨h, h1, h2⟩ | h
  · exact cround_ok c n node w h1 h2
  · exact cround_no c n node w _ rfl h
end Go.Proofs.Ytdjbalaicfienaa
