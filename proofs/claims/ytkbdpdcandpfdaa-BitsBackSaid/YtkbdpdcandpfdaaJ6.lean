/- The walk of BitsBack. -/
import Derived.Test.YtkbdpdcandpfdaaJ5
import Derived.Test.YtkbdpdcandpfdaaLater
import Derived.Test.YtkbdpdcandpfdaaW12
import Derived.Deep.DeepCutAuto
namespace Go.Proofs.Ytkbdpdcandpfdaa
open Go.RowKit
set_option linter.unusedVariables false
set_option linter.unusedSimpArgs false
theorem ones_is (x : RB) (bs : List Bool) (c : Int) (w : World) (hx : x.Is w bs) (hc : c = (cnt bs bs.length : Nat)) : Calls Try.prog 38 #[x.val] w fun e w' => e = .returned (.int .i64 c) ∧ Keeps w w' := by
  have h := ones_any x w hx.isIn
  rw [listOf_is hx, ← hc] at h
  exact h

set_option maxHeartbeats 4000000 in
set_option maxRecDepth 100000 in
theorem bitsBack_any (x u : RB) (v : Nat) (wv : Int) (zv : Value) (zs : List Int) (w : World) (hx : x.In w) (hu : u.In w) (hv : v < 18446744073709551616) (hz : Ints w zv zs) :
    Calls Try.prog 13 #[x.val, u.val, .int .u64 v, .int .i64 wv, zv] w fun e w' => e = .returned (.bool true) ∧ Keeps w w' := by
  have HX := Lib.hid hx
  have HU := Lib.hid hu
  have HZ := Lib.hid hz
  have HN1 := Lib.hid (And.intro hx.n1 hx.n2)
  clear hx hu hz
  obtain ⟨n, a, len, cap, l⟩ := x
  obtain ⟨m, b, lenu, capu, lu⟩ := u
  simp only at HN1
  show Calls Try.prog 13 #[.agg #[.int .i64 n, .slice a len cap], .agg #[.int .i64 m, .slice b lenu capu], .int .u64 v, .int .i64 wv, zv] w _
  have HK := Lib.hid (((Keeps.refl w).alloc (.cells #[.int .i64 n, .slice a len cap] 32)).alloc (.cells #[.int .i64 m, .slice b lenu capu] 32))
  have ha := ((Box.new w 32 #[.int .i64 n, .slice a len cap]).next (.cells #[.int .i64 m, .slice b lenu capu] 32))
  have HA := Lib.hid ha
  clear ha
  have hb := (Box.new (w.alloc (.cells #[.int .i64 n, .slice a len cap] 32)) 32 #[.int .i64 m, .slice b lenu capu])
  rw [World.size_alloc] at hb
  have HB := Lib.hid hb
  clear hb
  have HBF : Hid (chk n l = true → RB.Is ⟨n, a, len, cap, l⟩ w (RB.bits ⟨n, a, len, cap, l⟩)) := Lib.hid (fun hc => HX.out.is hc)
  have HCF : Hid (chk m lu = true → RB.Is ⟨m, b, lenu, capu, lu⟩ w (RB.bits ⟨m, b, lenu, capu, lu⟩)) := Lib.hid (fun hc => HU.out.is hc)
  obtain ⟨bs, hbs⟩ : ∃ bs, bs = RB.bits ⟨n, a, len, cap, l⟩ := ⟨_, rfl⟩
  obtain ⟨cs, hcs⟩ : ∃ cs, cs = RB.bits ⟨m, b, lenu, capu, lu⟩ := ⟨_, rfl⟩
  have HP1 := Lib.hid (putRes_ok ⟨n, a, len, cap, l⟩ v wv)
  have HP2 := Lib.hid (joinRes_two ⟨n, a, len, cap, l⟩ ⟨m, b, lenu, capu, lu⟩)
  have HP3 := Lib.hid (flipRes_ok ⟨n, a, len, cap, l⟩ zs)
  simp only at HP1 HP2 HP3
  obtain ⟨r1, hr1⟩ : ∃ r, r = putRes ⟨n, a, len, cap, l⟩ v wv := ⟨_, rfl⟩
  obtain ⟨r2, hr2⟩ : ∃ r, r = joinRes [⟨n, a, len, cap, l⟩, ⟨m, b, lenu, capu, lu⟩] := ⟨_, rfl⟩
  obtain ⟨r3, hr3⟩ : ∃ r, r = flipRes ⟨n, a, len, cap, l⟩ zs := ⟨_, rfl⟩
  rw [← hbs] at HBF HP1 HP2 HP3
  rw [← hcs] at HCF HP2
  rw [← hr1] at HP1
  rw [← hr2] at HP2
  rw [← hr3] at HP3
  have HR1 := Lib.hid hr1
  have HR2 := Lib.hid hr2
  have HR3 := Lib.hid hr3
  have HBS := Lib.hid hbs
  clear hr1 hr2 hr3 hbs hcs
  obtain ⟨p1, q1⟩ := r1
  obtain ⟨p2, q2⟩ := r2
  obtain ⟨p3, q3⟩ := r3
  simp only at HP1 HP2 HP3
  go_enter Try.func13, Try.ntmps13
  go_wp2_with fail
  with_reducible refine (begun1_any _).mono ?_
  rintro e w0 ⟨rfl, hk0⟩
  have hkk := hk0
  replace HK := Lib.hid (HK.out.trans hkk)
  replace HA := Lib.hid (HA.out.keeps hkk)
  replace HB := Lib.hid (HB.out.keeps hkk)
  clear hkk hk0
  have ha0 := HA.out.cell 0 _ rfl
  have ha1 := HA.out.cell 1 _ rfl
  have hal := HA.out.lt
  have hb0 := HB.out.cell 0 _ rfl
  have hb1 := HB.out.cell 1 _ rfl
  have hbl := HB.out.lt
  go_wp2_with fail
  with_reducible refine (put_any ⟨n, a, len, cap, l⟩ v wv _ (by exact HX.out.keeps HK.out) hv).mono ?_
  rw [← HR1.out]
  rintro e w1 ⟨y, rfl, hy, -, hk1⟩
  obtain ⟨n1, a1, len1, cap1, l1⟩ := y
  have HY1 := Lib.hid hy
  clear hy
  clear ha0 ha1 hal hb0 hb1 hbl
  have hkk := hk1
  replace HK := Lib.hid (HK.out.trans hkk)
  replace HA := Lib.hid (HA.out.keeps hkk)
  replace HB := Lib.hid (HB.out.keeps hkk)
  clear hkk hk1
  have ha0 := HA.out.cell 0 _ rfl
  have ha1 := HA.out.cell 1 _ rfl
  have hal := HA.out.lt
  have hb0 := HB.out.cell 0 _ rfl
  have hb1 := HB.out.cell 1 _ rfl
  have hbl := HB.out.lt
  have HM := Lib.hid (Keeps.refl w1)
  go_upto_if 39 with fail
  go_cut [10] from 11 (fun vx wx => vx = .bool false ∧ Hid (Keeps w1 wx))
  case first =>
    by_cases h0 : q1 = 0
    · subst h0
      obtain ⟨hcx, wd, rfl, h64, hvw, hr⟩ := HP1.out rfl
      obtain rfl := (Prod.mk.inj hr).1
      have HXI := Lib.hid (HBF.out hcx)
      have HNB : Hid (n = bs.length) := Lib.hid HXI.out.n
      have hn1 := HN1.out.1
      have hn2 := HN1.out.2
      clear hr hcx
      go_wp2_with fail
      with_reducible refine (get_any ⟨n1, a1, len1, cap1, l1⟩ n wd _ (by exact HY1.out.isIn.keeps ((Keeps.refl _).alloc _)) hn1 hn2).mono ?_
      rw [show getRes ⟨n1, a1, len1, cap1, l1⟩ n wd = (v, 0) by rw [HNB.out]; exact getRes_put HY1.out h64 hvw]
      rintro e w2 ⟨rfl, hk2⟩
      clear ha0 ha1 hal hb0 hb1 hbl
      have hkk := ((Keeps.refl w1).alloc (.cells #[.int .i64 n1, .slice a1 len1 cap1] 32)).trans hk2
      have HC := Lib.hid ((Box.new w1 32 #[.int .i64 n1, .slice a1 len1 cap1]).keeps hk2)
      replace HK := Lib.hid (HK.out.trans hkk)
      replace HM := Lib.hid (HM.out.trans hkk)
      replace HA := Lib.hid (HA.out.keeps hkk)
      replace HB := Lib.hid (HB.out.keeps hkk)
      replace HY1 := Lib.hid (HY1.out.keeps hkk)
      clear hkk hk2
      have ha0 := HA.out.cell 0 _ rfl
      have ha1 := HA.out.cell 1 _ rfl
      have hal := HA.out.lt
      have hb0 := HB.out.cell 0 _ rfl
      have hb1 := HB.out.cell 1 _ rfl
      have hbl := HB.out.lt
      have hc0 := HC.out.cell 0 _ rfl
      have hc1 := HC.out.cell 1 _ rfl
      have hcl := HC.out.lt
      go_wp2_with fail
      with_reducible refine (slice_any ⟨n1, a1, len1, cap1, l1⟩ 0 n _ (by exact HY1.out.isIn)).mono ?_
      rw [show sliceRes ⟨n1, a1, len1, cap1, l1⟩ 0 n = (bs, 0) by rw [HNB.out]; exact sliceRes_front HY1.out]
      rintro e w3 ⟨y, rfl, hy, -, hk3⟩
      obtain ⟨n3, a3, len3, cap3, l3⟩ := y
      have HY3 := Lib.hid hy
      clear hy
      clear ha0 ha1 hal hb0 hb1 hbl hc0 hc1 hcl
      have hkk := hk3
      replace HK := Lib.hid (HK.out.trans hkk)
      replace HM := Lib.hid (HM.out.trans hkk)
      replace HA := Lib.hid (HA.out.keeps hkk)
      replace HB := Lib.hid (HB.out.keeps hkk)
      replace HC := Lib.hid (HC.out.keeps hkk)
      replace HY1 := Lib.hid (HY1.out.keeps hkk)
      clear hkk hk3
      have ha0 := HA.out.cell 0 _ rfl
      have ha1 := HA.out.cell 1 _ rfl
      have hal := HA.out.lt
      have hb0 := HB.out.cell 0 _ rfl
      have hb1 := HB.out.cell 1 _ rfl
      have hbl := HB.out.lt
      have hc0 := HC.out.cell 0 _ rfl
      have hc1 := HC.out.cell 1 _ rfl
      have hcl := HC.out.lt
      go_wp2_with fail
      with_reducible refine (bsame_yes ⟨n3, a3, len3, cap3, l3⟩ ⟨n, a, len, cap, l⟩ bs _ (by exact HY3.out.keeps ((Keeps.refl _).alloc _)) (by exact HXI.out.keeps (HK.out.alloc _))).mono ?_
      rintro e w4 ⟨rfl, hk4⟩
      clear ha0 ha1 hal hb0 hb1 hbl hc0 hc1 hcl
      have hkk := ((Keeps.refl w3).alloc (.cells #[.int .i64 n3, .slice a3 len3 cap3] 32)).trans hk4
      have HD := Lib.hid ((Box.new w3 32 #[.int .i64 n3, .slice a3 len3 cap3]).keeps hk4)
      replace HK := Lib.hid (HK.out.trans hkk)
      replace HM := Lib.hid (HM.out.trans hkk)
      replace HA := Lib.hid (HA.out.keeps hkk)
      replace HB := Lib.hid (HB.out.keeps hkk)
      replace HC := Lib.hid (HC.out.keeps hkk)
      replace HY1 := Lib.hid (HY1.out.keeps hkk)
      replace HY3 := Lib.hid (HY3.out.keeps hkk)
      clear hkk hk4
      have ha0 := HA.out.cell 0 _ rfl
      have ha1 := HA.out.cell 1 _ rfl
      have hal := HA.out.lt
      have hb0 := HB.out.cell 0 _ rfl
      have hb1 := HB.out.cell 1 _ rfl
      have hbl := HB.out.lt
      have hc0 := HC.out.cell 0 _ rfl
      have hc1 := HC.out.cell 1 _ rfl
      have hcl := HC.out.lt
      have hd0 := HD.out.cell 0 _ rfl
      have hd1 := HD.out.cell 1 _ rfl
      have hdl := HD.out.lt
      go_wp2_with fail
      with_reducible refine (check_of ⟨n1, a1, len1, cap1, l1⟩ (bs ++ numBits v wd) _ (by exact HY1.out)).mono ?_
      rintro e w5 ⟨rfl, hk5⟩
      clear ha0 ha1 hal hb0 hb1 hbl hc0 hc1 hcl hd0 hd1 hdl
      have hkk := hk5
      replace HK := Lib.hid (HK.out.trans hkk)
      replace HM := Lib.hid (HM.out.trans hkk)
      replace HA := Lib.hid (HA.out.keeps hkk)
      replace HB := Lib.hid (HB.out.keeps hkk)
      replace HC := Lib.hid (HC.out.keeps hkk)
      replace HD := Lib.hid (HD.out.keeps hkk)
      replace HY1 := Lib.hid (HY1.out.keeps hkk)
      replace HY3 := Lib.hid (HY3.out.keeps hkk)
      clear hkk hk5
      have ha0 := HA.out.cell 0 _ rfl
      have ha1 := HA.out.cell 1 _ rfl
      have hal := HA.out.lt
      have hb0 := HB.out.cell 0 _ rfl
      have hb1 := HB.out.cell 1 _ rfl
      have hbl := HB.out.lt
      have hc0 := HC.out.cell 0 _ rfl
      have hc1 := HC.out.cell 1 _ rfl
      have hcl := HC.out.lt
      have hd0 := HD.out.cell 0 _ rfl
      have hd1 := HD.out.cell 1 _ rfl
      have hdl := HD.out.lt
      go_wp2_with fail
      go_meet
      exact ⟨rfl, HM⟩
    · have hd : (q1 == 0) = false := by rw [beq_eq_false_iff_ne]; exact h0
      go_wp2_with fail
      go_meet
      exact ⟨rfl, Lib.hid ((Keeps.refl _).alloc _)⟩
  case rest =>
    clear ha0 ha1 hal hb0 hb1 hbl
    obtain ⟨rfl, HKC⟩ := hcut
    have hkc := HKC.out
    clear HKC HM
    clear HY1
    have hkk := hkc
    replace HK := Lib.hid (HK.out.trans hkk)
    replace HA := Lib.hid (HA.out.keeps hkk)
    replace HB := Lib.hid (HB.out.keeps hkk)
    clear hkk hkc
    have ha0 := HA.out.cell 0 _ rfl
    have ha1 := HA.out.cell 1 _ rfl
    have hal := HA.out.lt
    have hb0 := HB.out.cell 0 _ rfl
    have hb1 := HB.out.cell 1 _ rfl
    have hbl := HB.out.lt
    go_wp2_with fail
    with_reducible refine (join_any _ 2 2 [⟨n, a, len, cap, l⟩, ⟨m, b, lenu, capu, lu⟩] _ (by exact RBs.two (Box.new _ _ _) (HX.out.keeps (HK.out.alloc _)) (HU.out.keeps (HK.out.alloc _)))).mono ?_
    rw [← HR2.out]
    rintro e w6 ⟨y, rfl, hy, -, hk6⟩
    obtain ⟨n6, a6, len6, cap6, l6⟩ := y
    have HY6 := Lib.hid hy
    clear hy
    clear ha0 ha1 hal hb0 hb1 hbl
    have hkk := ((Keeps.refl wc).alloc (.cells #[.int .i64 n, .slice a len cap, .int .i64 m, .slice b lenu capu] 32)).trans hk6
    replace HK := Lib.hid (HK.out.trans hkk)
    replace HA := Lib.hid (HA.out.keeps hkk)
    replace HB := Lib.hid (HB.out.keeps hkk)
    clear hkk hk6
    have ha0 := HA.out.cell 0 _ rfl
    have ha1 := HA.out.cell 1 _ rfl
    have hal := HA.out.lt
    have hb0 := HB.out.cell 0 _ rfl
    have hb1 := HB.out.cell 1 _ rfl
    have hbl := HB.out.lt
    have HM := Lib.hid (Keeps.refl w6)
    go_upto_if 85 with fail
    go_cut [10] from 11 (fun vx wx => vx = .bool false ∧ Hid (Keeps w6 wx))
    case first =>
      by_cases h0 : q2 = 0
      · subst h0
        obtain ⟨hcx, hcu, hr⟩ := HP2.out rfl
        obtain rfl := (Prod.mk.inj hr).1
        have HXI := Lib.hid (HBF.out hcx)
        have HUI := Lib.hid (HCF.out hcu)
        have HNB : Hid (n = bs.length) := Lib.hid HXI.out.n
        have HN6 : Hid (n6 = (bs ++ cs).length) := Lib.hid HY6.out.n
        have hc1 : cnt bs bs.length ≤ 4096 := Nat.le_trans (cnt_le _ _) HXI.out.most
        have hc2 : cnt cs cs.length ≤ 4096 := Nat.le_trans (cnt_le _ _) HUI.out.most
        have HCC := Lib.hid (cnt_app bs cs)
        obtain ⟨cA, hcA⟩ : ∃ cA, cA = cnt bs bs.length := ⟨_, rfl⟩
        obtain ⟨cB, hcB⟩ : ∃ cB, cB = cnt cs cs.length := ⟨_, rfl⟩
        rw [← hcA] at hc1 HCC
        rw [← hcB] at hc2 HCC
        have HCA := Lib.hid (congrArg (fun k : Nat => (k : Int)) hcA)
        have HCB := Lib.hid (congrArg (fun k : Nat => (k : Int)) hcB)
        have hwr : IntKind.i64.wrap ((cA : Int) + cB) = cA + cB := by simp [IntKind.wrap, IntKind.bits, IntKind.signed]; omega
        clear hr hcx hcu hcA hcB
        go_wp2_with fail
        with_reducible refine (slice_any ⟨n6, a6, len6, cap6, l6⟩ 0 n _ (by exact HY6.out.isIn.keeps ((Keeps.refl _).alloc _))).mono ?_
        rw [show sliceRes ⟨n6, a6, len6, cap6, l6⟩ 0 n = (bs, 0) by rw [HNB.out]; exact sliceRes_front HY6.out]
        rintro e w7 ⟨y, rfl, hy, -, hk7⟩
        obtain ⟨n7, a7, len7, cap7, l7⟩ := y
        have HY7 := Lib.hid hy
        clear hy
        clear ha0 ha1 hal hb0 hb1 hbl
        have hkk := ((Keeps.refl w6).alloc (.cells #[.int .i64 n6, .slice a6 len6 cap6] 32)).trans hk7
        have HC := Lib.hid ((Box.new w6 32 #[.int .i64 n6, .slice a6 len6 cap6]).keeps hk7)
        replace HK := Lib.hid (HK.out.trans hkk)
        replace HM := Lib.hid (HM.out.trans hkk)
        replace HA := Lib.hid (HA.out.keeps hkk)
        replace HB := Lib.hid (HB.out.keeps hkk)
        replace HY6 := Lib.hid (HY6.out.keeps hkk)
        clear hkk hk7
        have ha0 := HA.out.cell 0 _ rfl
        have ha1 := HA.out.cell 1 _ rfl
        have hal := HA.out.lt
        have hb0 := HB.out.cell 0 _ rfl
        have hb1 := HB.out.cell 1 _ rfl
        have hbl := HB.out.lt
        have hc0 := HC.out.cell 0 _ rfl
        have hc1 := HC.out.cell 1 _ rfl
        have hcl := HC.out.lt
        go_wp2_with fail
        with_reducible refine (slice_any ⟨n6, a6, len6, cap6, l6⟩ n n6 _ (by exact HY6.out.isIn.keeps ((Keeps.refl _).alloc _))).mono ?_
        rw [show sliceRes ⟨n6, a6, len6, cap6, l6⟩ n n6 = (cs, 0) from sliceRes_back2 HY6.out HNB.out HN6.out]
        rintro e w8 ⟨y, rfl, hy, -, hk8⟩
        obtain ⟨n8, a8, len8, cap8, l8⟩ := y
        have HY8 := Lib.hid hy
        clear hy
        clear ha0 ha1 hal hb0 hb1 hbl hc0 hc1 hcl
        have hkk := ((Keeps.refl w7).alloc (.cells #[.int .i64 n7, .slice a7 len7 cap7] 32)).trans hk8
        have HD := Lib.hid ((Box.new w7 32 #[.int .i64 n7, .slice a7 len7 cap7]).keeps hk8)
        replace HK := Lib.hid (HK.out.trans hkk)
        replace HM := Lib.hid (HM.out.trans hkk)
        replace HA := Lib.hid (HA.out.keeps hkk)
        replace HB := Lib.hid (HB.out.keeps hkk)
        replace HC := Lib.hid (HC.out.keeps hkk)
        replace HY6 := Lib.hid (HY6.out.keeps hkk)
        replace HY7 := Lib.hid (HY7.out.keeps hkk)
        clear hkk hk8
        have ha0 := HA.out.cell 0 _ rfl
        have ha1 := HA.out.cell 1 _ rfl
        have hal := HA.out.lt
        have hb0 := HB.out.cell 0 _ rfl
        have hb1 := HB.out.cell 1 _ rfl
        have hbl := HB.out.lt
        have hc0 := HC.out.cell 0 _ rfl
        have hc1 := HC.out.cell 1 _ rfl
        have hcl := HC.out.lt
        have hd0 := HD.out.cell 0 _ rfl
        have hd1 := HD.out.cell 1 _ rfl
        have hdl := HD.out.lt
        clear ha0 ha1 hal hb0 hb1 hbl hc0 hc1 hcl hd0 hd1 hdl
        have HCA2 := Lib.hid (HC.out.next (.cells #[.int .i64 n8, .slice a8 len8 cap8] 32))
        have HDA := Lib.hid (HD.out.next (.cells #[.int .i64 n8, .slice a8 len8 cap8] 32))
        have HEA := Lib.hid (Box.new w8 32 #[.int .i64 n8, .slice a8 len8 cap8])
        have HAA := Lib.hid (HA.out.next (.cells #[.int .i64 n8, .slice a8 len8 cap8] 32))
        have HBA := Lib.hid (HB.out.next (.cells #[.int .i64 n8, .slice a8 len8 cap8] 32))
        have HKA := Lib.hid (HK.out.alloc (.cells #[.int .i64 n8, .slice a8 len8 cap8] 32))
        have HMA := Lib.hid (HM.out.alloc (.cells #[.int .i64 n8, .slice a8 len8 cap8] 32))
        have HY6A := Lib.hid (HY6.out.keeps ((Keeps.refl w8).alloc (.cells #[.int .i64 n8, .slice a8 len8 cap8] 32)))
        have HY7A := Lib.hid (HY7.out.keeps ((Keeps.refl w8).alloc (.cells #[.int .i64 n8, .slice a8 len8 cap8] 32)))
        have HY8A := Lib.hid (HY8.out.keeps ((Keeps.refl w8).alloc (.cells #[.int .i64 n8, .slice a8 len8 cap8] 32)))
        clear HA HB HC HD HK HM HY6 HY7 HY8
        go_wp2_with fail
        have c1 := HAA.out.later 0 _ rfl
        have c2 := HAA.out.later 1 _ rfl
        have c3 := HBA.out.later 0 _ rfl
        have c4 := HBA.out.later 1 _ rfl
        have c5 := HCA2.out.later 0 _ rfl
        have c6 := HCA2.out.later 1 _ rfl
        have c7 := HDA.out.later 0 _ rfl
        have c8 := HDA.out.later 1 _ rfl
        have c9 := HEA.out.later 0 _ rfl
        have c10 := HEA.out.later 1 _ rfl
        refine wp_region_later (by kernel_rfl) (by kernel_rfl) ?_
        repeat (go_big_quiet_step (first
          | (go_at_call 37; with_reducible exact Later.calls _ (check_of ⟨n6, a6, len6, cap6, l6⟩ (bs ++ cs) _ (HY6A.out.keeps (Later.keeps _))))
          | (go_at_call 31; with_reducible exact Later.calls _ (bsame_yes ⟨n7, a7, len7, cap7, l7⟩ ⟨n, a, len, cap, l⟩ bs _ (HY7A.out.keeps (Later.keeps _)) (HXI.out.keeps (HKA.out.trans (Later.keeps _)))))
          | (go_at_call 31; with_reducible exact Later.calls _ (bsame_yes ⟨n8, a8, len8, cap8, l8⟩ ⟨m, b, lenu, capu, lu⟩ cs _ (HY8A.out.keeps (Later.keeps _)) (HUI.out.keeps (HKA.out.trans (Later.keeps _)))))
          | (go_at_call 38; with_reducible exact Later.calls _ (ones_is ⟨n6, a6, len6, cap6, l6⟩ (bs ++ cs) ((cA : Int) + cB) _ (HY6A.out.keeps (Later.keeps _)) (by rw [HCC.out]; exact (Int.natCast_add _ _).symm)))
          | (go_at_call 38; with_reducible exact Later.calls _ (ones_is ⟨n, a, len, cap, l⟩ bs (cA : Int) _ (HXI.out.keeps (HKA.out.trans (Later.keeps _))) HCA.out))
          | (go_at_call 38; with_reducible exact Later.calls _ (ones_is ⟨m, b, lenu, capu, lu⟩ cs (cB : Int) _ (HUI.out.keeps (HKA.out.trans (Later.keeps _))) HCB.out))))
        refine wpQuiet_nil ?_
        rintro _ ⟨k, rfl⟩
        have HKK := Lib.hid (HMA.out.trans k.keeps)
        clear c1 c2 c3 c4 c5 c6 c7 c8 c9 c10
        go_wp2_with fail
        go_meet
        exact ⟨rfl, HKK⟩
      · have hd : (q2 == 0) = false := by rw [beq_eq_false_iff_ne]; exact h0
        go_wp2_with fail
        go_meet
        exact ⟨rfl, Lib.hid ((Keeps.refl _).alloc _)⟩
    case rest =>
      clear ha0 ha1 hal hb0 hb1 hbl
      obtain ⟨rfl, HKC⟩ := hcut
      have hkc := HKC.out
      clear HKC HM HY6
      have hkk := hkc
      replace HK := Lib.hid (HK.out.trans hkk)
      replace HA := Lib.hid (HA.out.keeps hkk)
      replace HB := Lib.hid (HB.out.keeps hkk)
      clear hkk hkc
      have ha0 := HA.out.cell 0 _ rfl
      have ha1 := HA.out.cell 1 _ rfl
      have hal := HA.out.lt
      have hb0 := HB.out.cell 0 _ rfl
      have hb1 := HB.out.cell 1 _ rfl
      have hbl := HB.out.lt
      go_wp2_with fail
      with_reducible refine (flip_any ⟨n, a, len, cap, l⟩ zv zs _ (by exact HX.out.keeps HK.out) (by exact HZ.out.keeps HK.out)).mono ?_
      rw [← HR3.out]
      rintro e w10 ⟨y, rfl, hy, -, hk10⟩
      obtain ⟨n10, a10, len10, cap10, l10⟩ := y
      have HY10 := Lib.hid hy
      clear hy
      clear ha0 ha1 hal hb0 hb1 hbl
      have hkk := hk10
      replace HK := Lib.hid (HK.out.trans hkk)
      replace HA := Lib.hid (HA.out.keeps hkk)
      replace HB := Lib.hid (HB.out.keeps hkk)
      clear hkk hk10
      have ha0 := HA.out.cell 0 _ rfl
      have ha1 := HA.out.cell 1 _ rfl
      have hal := HA.out.lt
      have hb0 := HB.out.cell 0 _ rfl
      have hb1 := HB.out.cell 1 _ rfl
      have hbl := HB.out.lt
      have HM := Lib.hid (Keeps.refl w10)
      go_upto_if 142 with fail
      go_cut [10] from 11 (fun vx wx => vx = .bool false ∧ Hid (Keeps w10 wx))
      case first =>
        by_cases h0 : q3 = 0
        · subst h0
          obtain ⟨hcx, hall, hr⟩ := HP3.out rfl
          obtain rfl := (Prod.mk.inj hr).1
          have HXI := Lib.hid (HBF.out hcx)
          have HALL := Lib.hid hall
          clear hr hcx hall
          go_wp2_with fail
          with_reducible refine (flip_any ⟨n10, a10, len10, cap10, l10⟩ zv zs _ (by exact HY10.out.isIn.keeps ((Keeps.refl _).alloc _)) (by exact HZ.out.keeps (HK.out.alloc _))).mono ?_
          rw [flipRes_back HY10.out HALL.out]
          rintro e w11 ⟨y, rfl, hy, -, hk11⟩
          obtain ⟨n11, a11, len11, cap11, l11⟩ := y
          have HY11 := Lib.hid hy
          clear hy
          clear ha0 ha1 hal hb0 hb1 hbl
          have hkk := ((Keeps.refl w10).alloc (.cells #[.int .i64 n10, .slice a10 len10 cap10] 32)).trans hk11
          have HC := Lib.hid ((Box.new w10 32 #[.int .i64 n10, .slice a10 len10 cap10]).keeps hk11)
          replace HK := Lib.hid (HK.out.trans hkk)
          replace HM := Lib.hid (HM.out.trans hkk)
          replace HA := Lib.hid (HA.out.keeps hkk)
          replace HB := Lib.hid (HB.out.keeps hkk)
          replace HY10 := Lib.hid (HY10.out.keeps hkk)
          clear hkk hk11
          have ha0 := HA.out.cell 0 _ rfl
          have ha1 := HA.out.cell 1 _ rfl
          have hal := HA.out.lt
          have hb0 := HB.out.cell 0 _ rfl
          have hb1 := HB.out.cell 1 _ rfl
          have hbl := HB.out.lt
          have hc0 := HC.out.cell 0 _ rfl
          have hc1 := HC.out.cell 1 _ rfl
          have hcl := HC.out.lt
          go_wp2_with fail
          with_reducible refine (bsame_yes ⟨n11, a11, len11, cap11, l11⟩ ⟨n, a, len, cap, l⟩ bs _ (by exact HY11.out.keeps ((Keeps.refl _).alloc _)) (by exact HXI.out.keeps (HK.out.alloc _))).mono ?_
          rintro e w12 ⟨rfl, hk12⟩
          clear ha0 ha1 hal hb0 hb1 hbl hc0 hc1 hcl
          have hkk := ((Keeps.refl w11).alloc (.cells #[.int .i64 n11, .slice a11 len11 cap11] 32)).trans hk12
          have HD := Lib.hid ((Box.new w11 32 #[.int .i64 n11, .slice a11 len11 cap11]).keeps hk12)
          replace HK := Lib.hid (HK.out.trans hkk)
          replace HM := Lib.hid (HM.out.trans hkk)
          replace HA := Lib.hid (HA.out.keeps hkk)
          replace HB := Lib.hid (HB.out.keeps hkk)
          replace HC := Lib.hid (HC.out.keeps hkk)
          replace HY10 := Lib.hid (HY10.out.keeps hkk)
          replace HY11 := Lib.hid (HY11.out.keeps hkk)
          clear hkk hk12
          have ha0 := HA.out.cell 0 _ rfl
          have ha1 := HA.out.cell 1 _ rfl
          have hal := HA.out.lt
          have hb0 := HB.out.cell 0 _ rfl
          have hb1 := HB.out.cell 1 _ rfl
          have hbl := HB.out.lt
          have hc0 := HC.out.cell 0 _ rfl
          have hc1 := HC.out.cell 1 _ rfl
          have hcl := HC.out.lt
          have hd0 := HD.out.cell 0 _ rfl
          have hd1 := HD.out.cell 1 _ rfl
          have hdl := HD.out.lt
          go_wp2_with fail
          go_meet
          exact ⟨rfl, HM⟩
        · have hd : (q3 == 0) = false := by rw [beq_eq_false_iff_ne]; exact h0
          go_wp2_with fail
          go_meet
          exact ⟨rfl, Lib.hid ((Keeps.refl _).alloc _)⟩
      case rest =>
        clear ha0 ha1 hal hb0 hb1 hbl
        obtain ⟨rfl, HKC⟩ := hcut
        have hkc := HKC.out
        clear HKC HM HY10
        have hkk := hkc
        replace HK := Lib.hid (HK.out.trans hkk)
        replace HA := Lib.hid (HA.out.keeps hkk)
        replace HB := Lib.hid (HB.out.keeps hkk)
        clear hkk hkc
        have ha0 := HA.out.cell 0 _ rfl
        have ha1 := HA.out.cell 1 _ rfl
        have hal := HA.out.lt
        have hb0 := HB.out.cell 0 _ rfl
        have hb1 := HB.out.cell 1 _ rfl
        have hbl := HB.out.lt
        cases hch : chk n l
        · have HCH := Lib.hid hch
          clear hch
          go_wp2_with fail
          with_reducible refine (text_any ⟨n, a, len, cap, l⟩ _ (by exact HX.out.keeps HK.out)).mono ?_
          rintro e w13 ⟨rfl, hk13⟩
          clear ha0 ha1 hal hb0 hb1 hbl
          have hkk := hk13
          replace HK := Lib.hid (HK.out.trans hkk)
          replace HA := Lib.hid (HA.out.keeps hkk)
          replace HB := Lib.hid (HB.out.keeps hkk)
          clear hkk hk13
          have ha0 := HA.out.cell 0 _ rfl
          have ha1 := HA.out.cell 1 _ rfl
          have hal := HA.out.lt
          have hb0 := HB.out.cell 0 _ rfl
          have hb1 := HB.out.cell 1 _ rfl
          have hbl := HB.out.lt
          have hsz : (⟨(digits (listOf ⟨n, a, len, cap, l⟩)).toArray⟩ : ByteArray).size ≤ 9223372036854775807 := by have := listOf_len HX.out; simp [ByteArray.size, digits]; omega
          obtain ⟨S, hS⟩ : ∃ S : ByteArray, S = ⟨(digits (listOf ⟨n, a, len, cap, l⟩)).toArray⟩ := ⟨_, rfl⟩
          rw [← hS] at hsz ⊢
          clear hS
          obtain ⟨r4, hr4⟩ : ∃ r, r = parseRes S := ⟨_, rfl⟩
          go_wp2_with fail
          with_reducible refine (parse_any S _ hsz).mono ?_
          rw [← hr4]
          rintro e w14 ⟨y, rfl, hy, -, hk14⟩
          obtain ⟨n14, a14, len14, cap14, l14⟩ := y
          have HY14 := Lib.hid hy
          clear hy
          clear ha0 ha1 hal hb0 hb1 hbl
          have hkk := hk14
          replace HK := Lib.hid (HK.out.trans hkk)
          replace HA := Lib.hid (HA.out.keeps hkk)
          replace HB := Lib.hid (HB.out.keeps hkk)
          clear hkk hk14
          have ha0 := HA.out.cell 0 _ rfl
          have ha1 := HA.out.cell 1 _ rfl
          have hal := HA.out.lt
          have hb0 := HB.out.cell 0 _ rfl
          have hb1 := HB.out.cell 1 _ rfl
          have hbl := HB.out.lt
          clear hr4
          go_wp2_with fail
          with_reducible refine (check_no ⟨n, a, len, cap, l⟩ _ (by exact HX.out.keeps (HK.out.alloc _)) HCH.out).mono ?_
          rintro e w15 ⟨rfl, hk15⟩
          clear ha0 ha1 hal hb0 hb1 hbl
          have hkk := ((Keeps.refl w14).alloc (.cells #[.int .i64 n14, .slice a14 len14 cap14] 32)).trans hk15
          have HC := Lib.hid ((Box.new w14 32 #[.int .i64 n14, .slice a14 len14 cap14]).keeps hk15)
          replace HK := Lib.hid (HK.out.trans hkk)
          replace HA := Lib.hid (HA.out.keeps hkk)
          replace HB := Lib.hid (HB.out.keeps hkk)
          replace HY14 := Lib.hid (HY14.out.keeps hkk)
          clear hkk hk15
          have ha0 := HA.out.cell 0 _ rfl
          have ha1 := HA.out.cell 1 _ rfl
          have hal := HA.out.lt
          have hb0 := HB.out.cell 0 _ rfl
          have hb1 := HB.out.cell 1 _ rfl
          have hbl := HB.out.lt
          have hc0 := HC.out.cell 0 _ rfl
          have hc1 := HC.out.cell 1 _ rfl
          have hcl := HC.out.lt
          go_wp2_with fail
          go_ret
          exact ⟨rfl, HK.out⟩
        · have HCH := Lib.hid hch
          clear hch
          go_wp2_with fail
          with_reducible refine (text_any ⟨n, a, len, cap, l⟩ _ (by exact HX.out.keeps HK.out)).mono ?_
          have HXI := Lib.hid (HBF.out HCH.out)
          have hmo := HXI.out.most
          rw [listOf_is HXI.out]
          rintro e w13 ⟨rfl, hk13⟩
          clear ha0 ha1 hal hb0 hb1 hbl
          have hkk := hk13
          replace HK := Lib.hid (HK.out.trans hkk)
          replace HA := Lib.hid (HA.out.keeps hkk)
          replace HB := Lib.hid (HB.out.keeps hkk)
          clear hkk hk13
          have ha0 := HA.out.cell 0 _ rfl
          have ha1 := HA.out.cell 1 _ rfl
          have hal := HA.out.lt
          have hb0 := HB.out.cell 0 _ rfl
          have hb1 := HB.out.cell 1 _ rfl
          have hbl := HB.out.lt
          go_wp2_with fail
          with_reducible refine (parse_any ⟨(digits bs).toArray⟩ _ (by simp [ByteArray.size, digits]; omega)).mono ?_
          rw [parse_digits bs hmo]
          rintro e w14 ⟨y, rfl, hy, -, hk14⟩
          obtain ⟨n14, a14, len14, cap14, l14⟩ := y
          have HY14 := Lib.hid hy
          clear hy
          clear ha0 ha1 hal hb0 hb1 hbl
          have hkk := hk14
          replace HK := Lib.hid (HK.out.trans hkk)
          replace HA := Lib.hid (HA.out.keeps hkk)
          replace HB := Lib.hid (HB.out.keeps hkk)
          clear hkk hk14
          have ha0 := HA.out.cell 0 _ rfl
          have ha1 := HA.out.cell 1 _ rfl
          have hal := HA.out.lt
          have hb0 := HB.out.cell 0 _ rfl
          have hb1 := HB.out.cell 1 _ rfl
          have hbl := HB.out.lt
          go_wp2_with fail
          with_reducible refine (check_yes ⟨n, a, len, cap, l⟩ _ (by exact HX.out.keeps (HK.out.alloc _)) HCH.out).mono ?_
          rintro e w15 ⟨rfl, hk15⟩
          clear ha0 ha1 hal hb0 hb1 hbl
          have hkk := ((Keeps.refl w14).alloc (.cells #[.int .i64 n14, .slice a14 len14 cap14] 32)).trans hk15
          have HC := Lib.hid ((Box.new w14 32 #[.int .i64 n14, .slice a14 len14 cap14]).keeps hk15)
          replace HK := Lib.hid (HK.out.trans hkk)
          replace HA := Lib.hid (HA.out.keeps hkk)
          replace HB := Lib.hid (HB.out.keeps hkk)
          replace HY14 := Lib.hid (HY14.out.keeps hkk)
          clear hkk hk15
          have ha0 := HA.out.cell 0 _ rfl
          have ha1 := HA.out.cell 1 _ rfl
          have hal := HA.out.lt
          have hb0 := HB.out.cell 0 _ rfl
          have hb1 := HB.out.cell 1 _ rfl
          have hbl := HB.out.lt
          have hc0 := HC.out.cell 0 _ rfl
          have hc1 := HC.out.cell 1 _ rfl
          have hcl := HC.out.lt
          go_wp2_with fail
          with_reducible refine (bsame_yes ⟨n14, a14, len14, cap14, l14⟩ ⟨n, a, len, cap, l⟩ bs _ (by exact HY14.out) (by exact HXI.out.keeps HK.out)).mono ?_
          rintro e w16 ⟨rfl, hk16⟩
          clear ha0 ha1 hal hb0 hb1 hbl hc0 hc1 hcl
          have hkk := hk16
          replace HK := Lib.hid (HK.out.trans hkk)
          replace HA := Lib.hid (HA.out.keeps hkk)
          replace HB := Lib.hid (HB.out.keeps hkk)
          replace HC := Lib.hid (HC.out.keeps hkk)
          replace HY14 := Lib.hid (HY14.out.keeps hkk)
          clear hkk hk16
          have ha0 := HA.out.cell 0 _ rfl
          have ha1 := HA.out.cell 1 _ rfl
          have hal := HA.out.lt
          have hb0 := HB.out.cell 0 _ rfl
          have hb1 := HB.out.cell 1 _ rfl
          have hbl := HB.out.lt
          have hc0 := HC.out.cell 0 _ rfl
          have hc1 := HC.out.cell 1 _ rfl
          have hcl := HC.out.lt
          go_wp2_with fail
          go_ret
          exact ⟨rfl, HK.out⟩
end Go.Proofs.Ytkbdpdcandpfdaa
