/- The walk of CrcBack; what is sealed is opened. -/
import Derived.Test.YtkbdpdcandpfdaaW26
namespace Go.Proofs.Ytkbdpdcandpfdaa
open Go.RowKit
set_option linter.unusedVariables false
set_option linter.unusedSimpArgs false

theorem seal_cases (x u : RB) : (∃ c, c ≠ 0 ∧ sealRes x u = ([], c)) ∨
    (chk x.n x.l = true ∧ chk u.n u.l = true ∧ sealRes x u = (x.bits ++ numBits (crcOver (crcOver 0 u.bits) x.bits) 24, 0)) := by
  unfold sealRes
  cases hc : chk u.n u.l && chk x.n x.l
  · exact .inl ⟨10, by decide, by simp⟩
  · rw [Bool.and_eq_true] at hc
    rw [if_pos rfl]
    have hs : crcOver (crcOver 0 u.bits) x.bits < 16777216 := crcOver_lt _ _ (crcOver_lt _ _ (by decide))
    have hp : putArg (crcOver (crcOver 0 u.bits) x.bits) 24 = true := by
      simp only [putArg, Bool.and_eq_true, decide_eq_true_eq]
      exact ⟨by decide, by decide, hs⟩
    unfold putRes
    rw [if_pos hc.2, if_pos hp]
    unfold ofRes
    split
    · exact .inr ⟨hc.2, hc.1, rfl⟩
    · exact .inl ⟨3, by decide, rfl⟩
theorem part_front (bs cs : List Bool) : part (bs ++ cs) 0 bs.length = bs := by simp [part]
theorem getTo_back (bs : List Bool) (v : Nat) (hv : v < 16777216) : getTo (bs ++ numBits v 24) bs.length 24 = v := by
  unfold getTo
  rw [List.drop_left, List.take_of_length_le (by rw [numBits_len]; omega)]
  exact valOf_numBits 24 v hv
theorem openIs_at (bs cs : List Bool) (v : Nat) (hv : v < 16777216) : openIs (bs ++ numBits v 24) cs = if v = crcOver (crcOver 0 cs) bs then (bs, 0) else ([], 21) := by
  unfold openIs
  have e : (bs ++ numBits v 24).length - 24 = bs.length := by rw [List.length_append, numBits_len]; omega
  rw [e, getTo_back bs v hv, part_front]
theorem openRes_is {y u : RB} {w : World} {bs : List Bool} {v : Nat} (hy : y.Is w (bs ++ numBits v 24)) (hcu : chk u.n u.l = true) : openRes y u = openIs (bs ++ numBits v 24) u.bits := by
  unfold openRes
  rw [hy.chk, hcu, hy.bits, Bool.and_self, if_pos rfl, if_neg]
  rw [List.length_append, numBits_len]; omega
theorem ne_true {c d : Int} (h : c ≠ d) : (c != d) = true := by rw [bne_iff_ne]; exact h

set_option maxHeartbeats 2000000 in
set_option maxRecDepth 100000 in
theorem crcBack_any (x u : RB) (w : World) (hx : x.In w) (hu : u.In w) :
    Calls Try.prog 8 #[x.val, u.val] w fun e w' => e = .returned (.bool true) ∧ Keeps w w' := by
  have HX := Lib.hid hx
  have HU := Lib.hid hu
  clear hx hu
  obtain ⟨n, a, len, cap, l⟩ := x
  obtain ⟨m, b, len2, cap2, l2⟩ := u
  show Calls Try.prog 8 #[.agg #[.int .i64 n, .slice a len cap], .agg #[.int .i64 m, .slice b len2 cap2]] w _
  have HK := Lib.hid (((Keeps.refl w).alloc (.cells #[.int .i64 n, .slice a len cap] 32)).alloc (.cells #[.int .i64 m, .slice b len2 cap2] 32))
  have ha := ((Box.new w 32 #[.int .i64 n, .slice a len cap]).next (.cells #[.int .i64 m, .slice b len2 cap2] 32))
  have HA := Lib.hid ha
  clear ha
  have hb := (Box.new (w.alloc (.cells #[.int .i64 n, .slice a len cap] 32)) 32 #[.int .i64 m, .slice b len2 cap2])
  rw [World.size_alloc] at hb
  have HB := Lib.hid hb
  clear hb
  go_enter Try.func8, Try.ntmps8
  go_wp2_with fail
  with_reducible refine (seal_any ⟨n, a, len, cap, l⟩ ⟨m, b, len2, cap2, l2⟩ _ (by exact HX.out.keeps HK.out) (by exact HU.out.keeps HK.out)).mono ?_
  rcases seal_cases ⟨n, a, len, cap, l⟩ ⟨m, b, len2, cap2, l2⟩ with ⟨c, hc, hr⟩ | ⟨hcx, hcu, hr⟩
  · rw [hr]
    clear hr
    have hd := ne_true hc
    rintro e w1 ⟨y, rfl, hy, -, hk1⟩
    clear hy
    obtain ⟨n1, a1, len1, cap1, l1⟩ := y
    have hkk := hk1
    replace HK := Lib.hid (HK.out.trans hkk)
    replace HA := Lib.hid (HA.out.keeps hkk)
    replace HB := Lib.hid (HB.out.keeps hkk)
    clear hkk hk1
    have ha0 := HA.out.cell 0 _ rfl
    have ha1 := HA.out.cell 1 _ rfl
    have hal := HA.out.lt
    have hb0 := HB.out.cell 0 _ rfl
    have hb1 := HB.out.cell 1 _ rfl
    have hbl := HB.out.lt
    go_wp2_with fail
    refine (begun2_any _).mono ?_
    rintro e w2 ⟨rfl, hk2⟩
    clear ha0 ha1 hal hb0 hb1 hbl
    have hkk := ((Keeps.refl w1).alloc (.cells #[.int .i64 n1, .slice a1 len1 cap1] 32)).trans hk2
    have HC := Lib.hid ((Box.new w1 32 #[.int .i64 n1, .slice a1 len1 cap1]).keeps hk2)
    replace HK := Lib.hid (HK.out.trans hkk)
    replace HA := Lib.hid (HA.out.keeps hkk)
    replace HB := Lib.hid (HB.out.keeps hkk)
    clear hkk hk2
    go_wp2_with fail
    refine (begun2_any _).mono ?_
    rintro e w3 ⟨rfl, hk3⟩
    have hkk := hk3
    replace HK := Lib.hid (HK.out.trans hkk)
    replace HA := Lib.hid (HA.out.keeps hkk)
    replace HB := Lib.hid (HB.out.keeps hkk)
    replace HC := Lib.hid (HC.out.keeps hkk)
    clear hkk hk3
    go_wp2_with fail
    go_ret
    exact ⟨rfl, HK.out⟩
  · rw [hr]
    have hs := crcOver_lt (RB.bits ⟨n, a, len, cap, l⟩) (crcOver 0 (RB.bits ⟨m, b, len2, cap2, l2⟩)) (crcOver_lt _ _ (by decide))
    have HCU := Lib.hid hcu
    have hxi : RB.Is ⟨n, a, len, cap, l⟩ w (RB.bits ⟨n, a, len, cap, l⟩) := HX.out.is hcx
    have HXI := Lib.hid hxi
    have hn : n = ((RB.bits ⟨n, a, len, cap, l⟩).length : Int) := hxi.n
    obtain ⟨bs, hbs⟩ : ∃ bs, bs = RB.bits ⟨n, a, len, cap, l⟩ := ⟨_, rfl⟩
    obtain ⟨s, hss⟩ : ∃ s, s = crcOver (crcOver 0 (RB.bits ⟨m, b, len2, cap2, l2⟩)) (RB.bits ⟨n, a, len, cap, l⟩) := ⟨_, rfl⟩
    rw [← hss] at hs ⊢
    rw [← hbs] at hn hss HXI ⊢
    have HSS := Lib.hid hss
    clear hr hcx hcu hxi hbs hss
    rintro e w1 ⟨y, rfl, hy, -, hk1⟩
    obtain ⟨n1, a1, len1, cap1, l1⟩ := y
    have HY := Lib.hid hy
    have hn1 : n1 = ((bs ++ numBits s 24).length : Int) := hy.n
    have hnn : (n1 == n + 24) = true := by
      rw [hn, hn1, List.length_append, numBits_len, beq_iff_eq]; omega
    have hb4 : bs.length ≤ 4096 := HXI.out.most
    have hnb : n ≤ 4096 := by omega
    have hnb0 : 0 ≤ n := by omega
    clear hy hn hn1
    have hkk := hk1
    replace HK := Lib.hid (HK.out.trans hkk)
    replace HA := Lib.hid (HA.out.keeps hkk)
    replace HB := Lib.hid (HB.out.keeps hkk)
    clear hkk hk1
    have ha0 := HA.out.cell 0 _ rfl
    have ha1 := HA.out.cell 1 _ rfl
    have hal := HA.out.lt
    have hb0 := HB.out.cell 0 _ rfl
    have hb1 := HB.out.cell 1 _ rfl
    have hbl := HB.out.lt
    go_wp2_with fail
    refine (begun2_any _).mono ?_
    rintro e w2 ⟨rfl, hk2⟩
    clear ha0 ha1 hal hb0 hb1 hbl
    have hkk := ((Keeps.refl w1).alloc (.cells #[.int .i64 n1, .slice a1 len1 cap1] 32)).trans hk2
    have HC := Lib.hid ((Box.new w1 32 #[.int .i64 n1, .slice a1 len1 cap1]).keeps hk2)
    replace HK := Lib.hid (HK.out.trans hkk)
    replace HA := Lib.hid (HA.out.keeps hkk)
    replace HB := Lib.hid (HB.out.keeps hkk)
    replace HY := Lib.hid (HY.out.keeps hkk)
    clear hkk hk2
    have ha0 := HA.out.cell 0 _ rfl
    have ha1 := HA.out.cell 1 _ rfl
    have hal := HA.out.lt
    have hb0 := HB.out.cell 0 _ rfl
    have hb1 := HB.out.cell 1 _ rfl
    have hbl := HB.out.lt
    have hc0 := HC.out.cell 0 _ rfl
    have hc1 := HC.out.cell 1 _ rfl
    have hcl := HC.out.lt
    go_wp2_with fail
    with_reducible refine (open_any ⟨n1, a1, len1, cap1, l1⟩ ⟨m, b, len2, cap2, l2⟩ _ (by exact HY.out.isIn) (by exact HU.out.keeps HK.out)).mono ?_
    rw [openRes_is HY.out HCU.out, openIs_at bs _ s hs, if_pos HSS.out]
    rintro e w3 ⟨z, rfl, hz, -, hk3⟩
    obtain ⟨n3, a3, len3, cap3, l3⟩ := z
    have HZ := Lib.hid hz
    clear hz
    clear ha0 ha1 hal hb0 hb1 hbl hc0 hc1 hcl
    have hkk := hk3
    replace HK := Lib.hid (HK.out.trans hkk)
    replace HA := Lib.hid (HA.out.keeps hkk)
    replace HB := Lib.hid (HB.out.keeps hkk)
    replace HC := Lib.hid (HC.out.keeps hkk)
    replace HY := Lib.hid (HY.out.keeps hkk)
    clear hkk hk3
    have ha0 := HA.out.cell 0 _ rfl
    have ha1 := HA.out.cell 1 _ rfl
    have hal := HA.out.lt
    have hb0 := HB.out.cell 0 _ rfl
    have hb1 := HB.out.cell 1 _ rfl
    have hbl := HB.out.lt
    have hc0 := HC.out.cell 0 _ rfl
    have hc1 := HC.out.cell 1 _ rfl
    have hcl := HC.out.lt
    go_wp2_with fail
    with_reducible refine (same_is ⟨n3, a3, len3, cap3, l3⟩ ⟨n, a, len, cap, l⟩ bs bs _ (by exact HZ.out.keeps ((Keeps.refl _).alloc _)) (by exact HXI.out.keeps (HK.out.alloc _))).mono ?_
    rw [decide_eq_true (rfl : bs = bs)]
    rintro e w4 ⟨rfl, hk4⟩
    clear ha0 ha1 hal hb0 hb1 hbl hc0 hc1 hcl
    have hkk := ((Keeps.refl w3).alloc (.cells #[.int .i64 n3, .slice a3 len3 cap3] 32)).trans hk4
    have HD := Lib.hid ((Box.new w3 32 #[.int .i64 n3, .slice a3 len3 cap3]).keeps hk4)
    replace HK := Lib.hid (HK.out.trans hkk)
    replace HA := Lib.hid (HA.out.keeps hkk)
    replace HB := Lib.hid (HB.out.keeps hkk)
    replace HC := Lib.hid (HC.out.keeps hkk)
    replace HY := Lib.hid (HY.out.keeps hkk)
    replace HZ := Lib.hid (HZ.out.keeps hkk)
    clear hkk hk4
    have ha0 := HA.out.cell 0 _ rfl
    have ha1 := HA.out.cell 1 _ rfl
    have hal := HA.out.lt
    have hb0 := HB.out.cell 0 _ rfl
    have hb1 := HB.out.cell 1 _ rfl
    have hbl := HB.out.lt
    have hc0 := HC.out.cell 0 _ rfl
    have hc1 := HC.out.cell 1 _ rfl
    have hcl := HC.out.lt
    have hd0 := HD.out.cell 0 _ rfl
    have hd1 := HD.out.cell 1 _ rfl
    have hdl := HD.out.lt
    go_wp2_with fail
    go_ret
    exact ⟨rfl, HK.out⟩
end Go.Proofs.Ytkbdpdcandpfdaa
