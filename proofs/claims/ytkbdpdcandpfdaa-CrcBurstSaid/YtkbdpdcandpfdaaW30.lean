/- The walk of CrcBurst. -/
import Derived.Test.YtkbdpdcandpfdaaW30a
namespace Go.Proofs.Ytkbdpdcandpfdaa
open Go.RowKit
set_option linter.unusedVariables false
set_option linter.unusedSimpArgs false

set_option maxHeartbeats 2000000 in
set_option maxRecDepth 100000 in
theorem crcBurst_any (x u : RB) (av : Int) (pat : Nat) (w : World) (hx : x.In w) (hu : u.In w) (hpat : pat < 4294967296) :
    Calls Try.prog 11 #[x.val, u.val, .int .i64 av, .int .u32 pat] w fun e w' => e = .returned (.bool true) ∧ Keeps w w' := by
  have HX := Lib.hid hx
  have HU := Lib.hid hu
  clear hx hu
  obtain ⟨n, a, len, cap, l⟩ := x
  obtain ⟨m, b, lenu, capu, lu⟩ := u
  have HLP := Lib.hid (low24 pat hpat)
  obtain ⟨p, hp⟩ : ∃ p, p = pat % 16777216 := ⟨_, rfl⟩
  have hp24 : p < 16777216 := by omega
  rw [← hp] at HLP
  clear hp hpat
  show Calls Try.prog 11 #[.agg #[.int .i64 n, .slice a len cap], .agg #[.int .i64 m, .slice b lenu capu], .int .i64 av, .int .u32 pat] w _
  have HK := Lib.hid (((Keeps.refl w).alloc (.cells #[.int .i64 n, .slice a len cap] 32)).alloc (.cells #[.int .i64 m, .slice b lenu capu] 32))
  have ha := ((Box.new w 32 #[.int .i64 n, .slice a len cap]).next (.cells #[.int .i64 m, .slice b lenu capu] 32))
  have HA := Lib.hid ha
  clear ha
  have hb := (Box.new (w.alloc (.cells #[.int .i64 n, .slice a len cap] 32)) 32 #[.int .i64 m, .slice b lenu capu])
  rw [World.size_alloc] at hb
  have HB := Lib.hid hb
  clear hb
  go_enter Try.func11, Try.ntmps11
  go_wp2_with fail
  with_reducible refine (seal_any ⟨n, a, len, cap, l⟩ ⟨m, b, lenu, capu, lu⟩ _ (by exact HX.out.keeps HK.out) (by exact HU.out.keeps HK.out)).mono ?_
  rcases seal_cases ⟨n, a, len, cap, l⟩ ⟨m, b, lenu, capu, lu⟩ with ⟨c, hc, hr⟩ | ⟨hcx, hcu, hr⟩
  · rw [hr]
    clear hr
    have hd := ne_true hc
    rintro e w1 ⟨y, rfl, hy, -, hk1⟩
    clear hy
    obtain ⟨n1, a1, len1, cap1, l1⟩ := y
    have hkk := hk1
    replace HK := Lib.hid (HK.out.trans hkk)
    replace HA := Lib.hid (HA.out.keeps hkk)
    replace HB := Lib.hid (HB.out.keeps hkk)
    clear hkk hk1
    have ha0 := HA.out.cell 0 _ rfl
    have ha1 := HA.out.cell 1 _ rfl
    have hal := HA.out.lt
    have hb0 := HB.out.cell 0 _ rfl
    have hb1 := HB.out.cell 1 _ rfl
    have hbl := HB.out.lt
    go_wp2_with fail
    refine (begun2_any _).mono ?_
    rintro e w2 ⟨rfl, hk2⟩
    clear ha0 ha1 hal hb0 hb1 hbl
    have hkk := ((Keeps.refl w1).alloc (.cells #[.int .i64 n1, .slice a1 len1 cap1] 32)).trans hk2
    have HC := Lib.hid ((Box.new w1 32 #[.int .i64 n1, .slice a1 len1 cap1]).keeps hk2)
    replace HK := Lib.hid (HK.out.trans hkk)
    replace HA := Lib.hid (HA.out.keeps hkk)
    replace HB := Lib.hid (HB.out.keeps hkk)
    clear hkk hk2
    go_wp2_with fail
    refine (begun2_any _).mono ?_
    rintro e w3 ⟨rfl, hk3⟩
    have hkk := hk3
    replace HK := Lib.hid (HK.out.trans hkk)
    replace HA := Lib.hid (HA.out.keeps hkk)
    replace HB := Lib.hid (HB.out.keeps hkk)
    replace HC := Lib.hid (HC.out.keeps hkk)
    clear hkk hk3
    go_wp2_with fail
    go_ret
    exact ⟨rfl, HK.out⟩
  · rw [hr]
    have HCU := Lib.hid hcu
    have HXL := Lib.hid (RB.Is.n (HX.out.is hcx))
    obtain ⟨bs, hbs⟩ : ∃ bs, bs = RB.bits ⟨n, a, len, cap, l⟩ := ⟨_, rfl⟩
    obtain ⟨cs, hcs⟩ : ∃ cs, cs = RB.bits ⟨m, b, lenu, capu, lu⟩ := ⟨_, rfl⟩
    rw [← hbs, ← hcs]
    have HCS := Lib.hid hcs
    obtain ⟨B, hB⟩ : ∃ B, B = bs ++ numBits (crcOver (crcOver 0 cs) bs) 24 := ⟨_, rfl⟩
    rw [← hB]
    have hB24 : 24 ≤ B.length := by rw [hB, List.length_append, numBits_len]; omega
    have HB0 := Lib.hid hB
    clear hr hcx hcu hbs hcs hB
    rintro e w1 ⟨y, rfl, hy, -, hk1⟩
    obtain ⟨n1, a1, len1, cap1, l1⟩ := y
    have HY := Lib.hid hy
    have hn1 : n1 = (B.length : Int) := hy.n
    subst hn1
    have hb4 := hy.most
    clear hy
    have hkk := hk1
    replace HK := Lib.hid (HK.out.trans hkk)
    replace HA := Lib.hid (HA.out.keeps hkk)
    replace HB := Lib.hid (HB.out.keeps hkk)
    clear hkk hk1
    have ha0 := HA.out.cell 0 _ rfl
    have ha1 := HA.out.cell 1 _ rfl
    have hal := HA.out.lt
    have hb0 := HB.out.cell 0 _ rfl
    have hb1 := HB.out.cell 1 _ rfl
    have hbl := HB.out.lt
    go_wp2_with fail
    refine (begun2_any _).mono ?_
    rintro e w2 ⟨rfl, hk2⟩
    clear ha0 ha1 hal hb0 hb1 hbl
    have hkk := ((Keeps.refl w1).alloc (.cells #[.int .i64 B.length, .slice a1 len1 cap1] 32)).trans hk2
    have HC := Lib.hid ((Box.new w1 32 #[.int .i64 B.length, .slice a1 len1 cap1]).keeps hk2)
    replace HK := Lib.hid (HK.out.trans hkk)
    replace HA := Lib.hid (HA.out.keeps hkk)
    replace HB := Lib.hid (HB.out.keeps hkk)
    replace HY := Lib.hid (HY.out.keeps hkk)
    clear hkk hk2
    have ha0 := HA.out.cell 0 _ rfl
    have ha1 := HA.out.cell 1 _ rfl
    have hal := HA.out.lt
    have hb0 := HB.out.cell 0 _ rfl
    have hb1 := HB.out.cell 1 _ rfl
    have hbl := HB.out.lt
    have hc0 := HC.out.cell 0 _ rfl
    have hc1 := HC.out.cell 1 _ rfl
    have hcl := HC.out.lt
    go_wp2_with fail
    rw [HLP.out]
    with_reducible refine (burst_any ⟨B.length, a1, len1, cap1, l1⟩ av p _ (by exact HY.out.isIn) (by omega)).mono ?_
    rw [show burstRes ⟨B.length, a1, len1, cap1, l1⟩ av p = (if atOk B.length av then burstIs B av.toNat p else ([], 2)) by unfold burstRes; rw [if_pos HY.out.chk, HY.out.bits]]
    cases hat : atOk B.length av
    · rw [if_neg (by decide)]
      rintro e w3 ⟨y, rfl, hy, -, hk3⟩
      clear hy
      obtain ⟨n3, a3, len3, cap3, l3⟩ := y
      clear ha0 ha1 hal hb0 hb1 hbl hc0 hc1 hcl
      have hkk := hk3
      replace HK := Lib.hid (HK.out.trans hkk)
      replace HA := Lib.hid (HA.out.keeps hkk)
      replace HB := Lib.hid (HB.out.keeps hkk)
      replace HC := Lib.hid (HC.out.keeps hkk)
      replace HY := Lib.hid (HY.out.keeps hkk)
      clear hkk hk3
      have ha0 := HA.out.cell 0 _ rfl
      have ha1 := HA.out.cell 1 _ rfl
      have hal := HA.out.lt
      have hb0 := HB.out.cell 0 _ rfl
      have hb1 := HB.out.cell 1 _ rfl
      have hbl := HB.out.lt
      have hc0 := HC.out.cell 0 _ rfl
      have hc1 := HC.out.cell 1 _ rfl
      have hcl := HC.out.lt
      simp only [atOk, Bool.and_eq_false_iff, decide_eq_false_iff_not] at hat
      by_cases hav : av < 0
      · have hd1 : decide (av < 0) = true := by simpa using hav
        clear hat
        go_wp2_with fail
        go_ret
        exact ⟨rfl, HK.out.alloc _⟩
      · have hav2 : (B.length : Int) < av := by omega
        have hd1 : decide (av < 0) = false := by simpa using hav
        have hd2 : decide ((B.length : Int) < av) = true := by simpa using hav2
        clear hat
        go_wp2_with fail
        go_ret
        exact ⟨rfl, HK.out.alloc _⟩
    · rw [if_pos rfl]
      simp only [atOk, Bool.and_eq_true, decide_eq_true_eq] at hat
      obtain ⟨hat1, hat2⟩ := hat
      obtain ⟨t, rfl⟩ := Int.eq_ofNat_of_zero_le hat1
      rw [Int.toNat_natCast]
      have htl : t ≤ B.length := by omega
      obtain ⟨ps, j, hps, hxo⟩ := burst_xor B p t htl hp24
      have hr : burstIs B t p = (flips B (onesAt p t (min 32 (B.length - t))) (onesAt p t (min 32 (B.length - t))).length, 0) := by
        unfold burstIs
        apply flipIs_yes
        intro i hi
        rw [show (onesAt p t (min 32 (B.length - t))).getD i 0 = (onesAt p t (min 32 (B.length - t)))[i] by simp [List.getD_eq_getElem?_getD, hi]]
        exact onesAt_in p t (min 32 (B.length - t)) B.length (by omega) _ (List.getElem_mem hi)
      rw [hr]
      have hYl := flips_len B (onesAt p t (min 32 (B.length - t))) (onesAt p t (min 32 (B.length - t))).length
      obtain ⟨Y, hYe⟩ : ∃ Y, Y = flips B (onesAt p t (min 32 (B.length - t))) (onesAt p t (min 32 (B.length - t))).length := ⟨_, rfl⟩
      rw [← hYe] at hxo hYl ⊢
      have hYlen : Y.length ≤ 4096 := by omega
      have hY24 : 24 ≤ Y.length := by omega
      have HT : Hid (¬ B = Y → openIs Y cs = ([], 21)) := by
        intro hne
        have hB := HB0.out
        rw [hB] at hYl hxo hne
        exact open_told bs cs Y ps t j hYl hps hxo hne
      clear hxo hYl hYe hr hps
      rintro e w3 ⟨y, rfl, hy, -, hk3⟩
      obtain ⟨n3, a3, len3, cap3, l3⟩ := y
      have HY3 := Lib.hid hy
      clear hy
      clear ha0 ha1 hal hb0 hb1 hbl hc0 hc1 hcl
      have hkk := hk3
      replace HK := Lib.hid (HK.out.trans hkk)
      replace HA := Lib.hid (HA.out.keeps hkk)
      replace HB := Lib.hid (HB.out.keeps hkk)
      replace HC := Lib.hid (HC.out.keeps hkk)
      replace HY := Lib.hid (HY.out.keeps hkk)
      clear hkk hk3
      have ha0 := HA.out.cell 0 _ rfl
      have ha1 := HA.out.cell 1 _ rfl
      have hal := HA.out.lt
      have hb0 := HB.out.cell 0 _ rfl
      have hb1 := HB.out.cell 1 _ rfl
      have hbl := HB.out.lt
      have hc0 := HC.out.cell 0 _ rfl
      have hc1 := HC.out.cell 1 _ rfl
      have hcl := HC.out.lt
      go_wp2_with fail
      with_reducible refine (same_is ⟨B.length, a1, len1, cap1, l1⟩ ⟨n3, a3, len3, cap3, l3⟩ B Y _ (by exact HY.out.keeps ((Keeps.refl _).alloc _)) (by exact HY3.out.keeps ((Keeps.refl _).alloc _))).mono ?_
      by_cases hBY : B = Y
      · rw [decide_eq_true hBY]
        clear hBY
        rintro e w4 ⟨rfl, hk4⟩
        clear ha0 ha1 hal hb0 hb1 hbl hc0 hc1 hcl
        have hkk := ((Keeps.refl w3).alloc (.cells #[.int .i64 n3, .slice a3 len3 cap3] 32)).trans hk4
        have HD := Lib.hid ((Box.new w3 32 #[.int .i64 n3, .slice a3 len3 cap3]).keeps hk4)
        replace HK := Lib.hid (HK.out.trans hkk)
        replace HA := Lib.hid (HA.out.keeps hkk)
        replace HB := Lib.hid (HB.out.keeps hkk)
        replace HC := Lib.hid (HC.out.keeps hkk)
        replace HY := Lib.hid (HY.out.keeps hkk)
        replace HY3 := Lib.hid (HY3.out.keeps hkk)
        clear hkk hk4
        have ha0 := HA.out.cell 0 _ rfl
        have ha1 := HA.out.cell 1 _ rfl
        have hal := HA.out.lt
        have hb0 := HB.out.cell 0 _ rfl
        have hb1 := HB.out.cell 1 _ rfl
        have hbl := HB.out.lt
        have hc0 := HC.out.cell 0 _ rfl
        have hc1 := HC.out.cell 1 _ rfl
        have hcl := HC.out.lt
        have hd0 := HD.out.cell 0 _ rfl
        have hd1 := HD.out.cell 1 _ rfl
        have hdl := HD.out.lt
        go_wp2_with fail
        go_ret
        exact ⟨rfl, HK.out⟩
      · rw [decide_eq_false hBY]
        have HT2 := Lib.hid (HT.out hBY)
        clear hBY HT
        rintro e w4 ⟨rfl, hk4⟩
        clear ha0 ha1 hal hb0 hb1 hbl hc0 hc1 hcl
        have hkk := ((Keeps.refl w3).alloc (.cells #[.int .i64 n3, .slice a3 len3 cap3] 32)).trans hk4
        have HD := Lib.hid ((Box.new w3 32 #[.int .i64 n3, .slice a3 len3 cap3]).keeps hk4)
        replace HK := Lib.hid (HK.out.trans hkk)
        replace HA := Lib.hid (HA.out.keeps hkk)
        replace HB := Lib.hid (HB.out.keeps hkk)
        replace HC := Lib.hid (HC.out.keeps hkk)
        replace HY := Lib.hid (HY.out.keeps hkk)
        replace HY3 := Lib.hid (HY3.out.keeps hkk)
        clear hkk hk4
        have ha0 := HA.out.cell 0 _ rfl
        have ha1 := HA.out.cell 1 _ rfl
        have hal := HA.out.lt
        have hb0 := HB.out.cell 0 _ rfl
        have hb1 := HB.out.cell 1 _ rfl
        have hbl := HB.out.lt
        have hc0 := HC.out.cell 0 _ rfl
        have hc1 := HC.out.cell 1 _ rfl
        have hcl := HC.out.lt
        have hd0 := HD.out.cell 0 _ rfl
        have hd1 := HD.out.cell 1 _ rfl
        have hdl := HD.out.lt
        go_wp2_with fail
        with_reducible refine (open_any ⟨n3, a3, len3, cap3, l3⟩ ⟨m, b, lenu, capu, lu⟩ _ (by exact HY3.out.isIn) (by exact HU.out.keeps HK.out)).mono ?_
        rw [show openRes ⟨n3, a3, len3, cap3, l3⟩ ⟨m, b, lenu, capu, lu⟩ = openIs Y cs by unfold openRes; rw [HY3.out.chk, HCU.out, HY3.out.bits, ← HCS.out, Bool.and_self, if_pos rfl, if_neg (by omega)], HT2.out]
        rintro e w5 ⟨y, rfl, hy, -, hk5⟩
        clear hy
        obtain ⟨n5, a5, len5, cap5, l5⟩ := y
        clear ha0 ha1 hal hb0 hb1 hbl hc0 hc1 hcl hd0 hd1 hdl
        have hkk := hk5
        replace HK := Lib.hid (HK.out.trans hkk)
        replace HA := Lib.hid (HA.out.keeps hkk)
        replace HB := Lib.hid (HB.out.keeps hkk)
        replace HC := Lib.hid (HC.out.keeps hkk)
        replace HD := Lib.hid (HD.out.keeps hkk)
        replace HY := Lib.hid (HY.out.keeps hkk)
        replace HY3 := Lib.hid (HY3.out.keeps hkk)
        clear hkk hk5
        go_wp2_with fail
        go_ret
        exact ⟨rfl, HK.out.alloc _⟩
end Go.Proofs.Ytkbdpdcandpfdaa
