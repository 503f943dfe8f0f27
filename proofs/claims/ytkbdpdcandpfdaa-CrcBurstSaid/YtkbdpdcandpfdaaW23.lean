/- The walk of CrcLinear. -/
import Derived.Test.YtkbdpdcandpfdaaW22
import Derived.Test.YtkbdpdcandpfdaaPlainLin
namespace Go.Proofs.Ytkbdpdcandpfdaa
open Go.RowKit
set_option linter.unusedVariables false
set_option linter.unusedSimpArgs false

theorem flip1_getD (bs : List Bool) (k i : Nat) (h : k < bs.length) : (flip1 bs (k : Int)).getD i false = if i = k then !bs.getD i false else bs.getD i false := by
  unfold flip1
  rw [Int.toNat_natCast, set_getD]
  by_cases hi : i = k
  · subst hi; rw [if_pos ⟨rfl, h⟩, if_pos rfl]
  · rw [if_neg (by intro hh; exact hi hh.1.symm), if_neg hi]
theorem ones_getD (bs cs : List Bool) (k : Nat) (h : k ≤ bs.length) (i : Nat) : ((onesTo cs k).foldl flip1 bs).getD i false = if i < k then (bs.getD i false ^^ cs.getD i false) else bs.getD i false := by
  induction k with
  | zero => rw [onesTo_zero, if_neg (by omega)]; rfl
  | succ k ih =>
    have ih' := ih (by omega)
    cases hc : cs.getD k false
    · rw [onesTo_no _ _ hc, ih']
      by_cases h1 : i < k
      · rw [if_pos h1, if_pos (by omega)]
      · rw [if_neg h1]
        by_cases h2 : i = k
        · subst h2; rw [if_pos (by omega), hc]; simp
        · rw [if_neg (by omega)]
    · rw [onesTo_yes _ _ hc, List.foldl_append]
      show (flip1 _ (k : Int)).getD i false = _
      rw [flip1_getD _ _ _ (by rw [foldl_flip_len]; omega), ih']
      by_cases h2 : i = k
      · subst h2; rw [if_pos rfl, if_neg (by omega), if_pos (by omega), hc]; simp
      · rw [if_neg h2]
        by_cases h1 : i < k
        · rw [if_pos h1, if_pos (by omega)]
        · rw [if_neg h1, if_neg (by omega)]
theorem onesTo_in (cs : List Bool) (k : Nat) : ∀ z ∈ onesTo cs k, inN k z = true := by
  intro z hz
  unfold onesTo at hz
  simp only [List.mem_map, List.mem_filter, List.mem_range] at hz
  obtain ⟨i, ⟨hi, -⟩, rfl⟩ := hz
  simp only [inN, Bool.and_eq_true, decide_eq_true_eq]; omega
theorem flipIs_ones (bs cs : List Bool) (h : bs.length = cs.length) : flipIs bs (onesTo cs cs.length) = (xorL bs cs, 0) := by
  unfold flipIs
  rw [if_pos (by rw [List.all_eq_true, h]; exact onesTo_in cs cs.length)]
  congr 1
  apply ext_getD
  · rw [flips_len, xorL_len _ _ h]
  · intro i hi
    rw [flips_len] at hi
    unfold flips
    rw [List.take_length, ones_getD _ _ _ (by omega), if_pos (by omega), xorL_getD _ _ h]

theorem Box.put {w : World} {b t : Nat} {c : Array Value} (h : Box w b t c) (i : Nat) (v : Value) : Box (w.setCell ⟨b, i, none⟩ v) b t (c.setIfInBounds i v) := heap_setCell_same w b i c t v h
theorem sliceRes_front (x : RB) (p : Int) (hc : chk x.n x.l = true) (h0 : 0 ≤ p) (h1 : p ≤ x.n) : sliceRes x 0 p = (part x.bits 0 p.toNat, 0) := by
  unfold sliceRes
  rw [if_pos hc, if_pos]
  · rfl
  · simp only [partOk, Bool.and_eq_true, decide_eq_true_eq]; omega
set_option maxHeartbeats 2000000 in
set_option maxRecDepth 100000 in
theorem crcLinear_any (x y : RB) (w : World) (hx : x.In w) (hy : y.In w) :
    Calls Try.prog 4 #[x.val, y.val] w fun e w' => e = .returned (.bool true) ∧ Keeps w w' := by
  have HX := Lib.hid hx
  have HY := Lib.hid hy
  clear hx hy
  obtain ⟨n, a, len, cap, l⟩ := x
  obtain ⟨m, b, len2, cap2, l2⟩ := y
  show Calls Try.prog 4 #[.agg #[.int .i64 n, .slice a len cap], .agg #[.int .i64 m, .slice b len2 cap2]] w _
  have HK0 := Lib.hid (((Keeps.refl w).alloc (.cells #[.int .i64 n, .slice a len cap] 32)).alloc (.cells #[.int .i64 m, .slice b len2 cap2] 32))
  have hxa := (Box.new w 32 #[.int .i64 n, .slice a len cap]).next (.cells #[.int .i64 m, .slice b len2 cap2] 32)
  have hxb := Box.new (w.alloc (.cells #[.int .i64 n, .slice a len cap] 32)) 32 #[.int .i64 m, .slice b len2 cap2]
  rw [World.size_alloc] at hxb
  have HXA := Lib.hid hxa
  have HXB := Lib.hid hxb
  clear hxa hxb
  go_enter Try.func4, Try.ntmps4
  go_wp2_with fail
  refine (begun2_any _).mono ?_
  rintro e w1 ⟨rfl, hk1⟩
  have HK1 := Lib.hid (HK0.out.trans hk1)
  have HA1 := Lib.hid (HXA.out.keeps hk1)
  have HB1 := Lib.hid (HXB.out.keeps hk1)
  clear hk1 HK0 HXA HXB
  have ca0 := HA1.out.cell 0 _ rfl
  have ca1 := HA1.out.cell 1 _ rfl
  cases hc : chk n l
  · go_wp2_with fail
    with_reducible refine (rcheck_no ⟨n, a, len, cap, l⟩ _ (by exact HX.out.keeps HK1.out) hc).mono ?_
    rintro e w2 ⟨rfl, hk2⟩
    go_wp2_with fail
    refine (begun2_any _).mono ?_
    rintro e w3 ⟨rfl, hk3⟩
    have HK3 := Lib.hid ((HK1.out.trans hk2).trans hk3)
    clear hk2 hk3
    go_wp2_with fail
    go_ret
    exact ⟨rfl, HK3.out⟩
  have HC := Lib.hid hc
  clear hc
  go_wp2_with fail
  with_reducible refine (rcheck_yes ⟨n, a, len, cap, l⟩ _ (by exact HX.out.keeps HK1.out) HC.out).mono ?_
  rintro e w2 ⟨rfl, hk2⟩
  have HK2 := Lib.hid (HK1.out.trans hk2)
  have HA2 := Lib.hid (HA1.out.keeps hk2)
  have HB2 := Lib.hid (HB1.out.keeps hk2)
  clear hk2 HK1 HA1 HB1 ca0 ca1
  have cb0 := HB2.out.cell 0 _ rfl
  have cb1 := HB2.out.cell 1 _ rfl
  cases hc : chk m l2
  · go_wp2_with fail
    with_reducible refine (rcheck_no ⟨m, b, len2, cap2, l2⟩ _ (by exact HY.out.keeps HK2.out) hc).mono ?_
    rintro e w3 ⟨rfl, hk3⟩
    go_wp2_with fail
    refine (begun2_any _).mono ?_
    rintro e w4 ⟨rfl, hk4⟩
    have HK4 := Lib.hid ((HK2.out.trans hk3).trans hk4)
    clear hk3 hk4
    go_wp2_with fail
    go_ret
    exact ⟨rfl, HK4.out⟩
  have HC2 := Lib.hid hc
  clear hc
  go_wp2_with fail
  with_reducible refine (rcheck_yes ⟨m, b, len2, cap2, l2⟩ _ (by exact HY.out.keeps HK2.out) HC2.out).mono ?_
  rintro e w3 ⟨rfl, hk3⟩
  have HK3 := Lib.hid (HK2.out.trans hk3)
  have HA3 := Lib.hid (HA2.out.keeps hk3)
  have HB3 := Lib.hid (HB2.out.keeps hk3)
  clear hk3 HK2 HA2 HB2 cb0 cb1
  have ca0 := HA3.out.cell 0 _ rfl
  have ca1 := HA3.out.cell 1 _ rfl
  have cb0 := HB3.out.cell 0 _ rfl
  have cb1 := HB3.out.cell 1 _ rfl
  by_cases h : n ≤ m
  · have hbr := h
    have hPn : 0 ≤ n := by have := (chk_parts HC.out).1; have := (chk_parts HC2.out).1; omega
    go_wp2_with fail
    with_reducible refine (rslice_any ⟨n, a, len, cap, l⟩ 0 n _ (by exact HX.out.keeps HK3.out)).mono ?_
    rw [sliceRes_front ⟨n, a, len, cap, l⟩ n HC.out hPn (by simp only; omega)]
    rintro e w4 ⟨y1, rfl, hy1, hf1, hk4⟩
    have HY1 := Lib.hid hy1
    have HF1 := Lib.hid hf1
    have HK4 := Lib.hid (HK3.out.trans hk4)
    have HA4 := Lib.hid (HA3.out.keeps hk4)
    have HB4 := Lib.hid (HB3.out.keeps hk4)
    have hz34 := HA3.out.lt
    have hz35 := HB3.out.lt
    clear hk4 HK3 HA3 HB3 ca0 ca1 cb0 cb1 hy1 hf1
    have ca0 := HA4.out.cell 0 _ rfl
    have ca1 := HA4.out.cell 1 _ rfl
    have caf := HA4.out.frozen
    have cb0 := HB4.out.cell 0 _ rfl
    have cb1 := HB4.out.cell 1 _ rfl
    have hz44 := HA4.out.lt
    obtain ⟨n1, a1, len1, cap1, l1⟩ := y1
    have HA5 := Lib.hid ((HA4.out.put 0 (.int .i64 n1)).put 1 (.slice a1 len1 cap1))
    have HB5 := Lib.hid ((HB4.out.keepsBut (KeepsBut.setCell w4 w.heap.size 0 (.int .i64 n1)) (by omega)).keepsBut (KeepsBut.setCell _ w.heap.size 1 (.slice a1 len1 cap1)) (by omega))
    have HK5 := Lib.hid ((HK4.out.setCell (p := ⟨w.heap.size, 0, none⟩) (Nat.le_refl _) (.int .i64 n1)).setCell (p := ⟨w.heap.size, 1, none⟩) (Nat.le_refl _) (.slice a1 len1 cap1))
    have HY5 := Lib.hid (RB.Is.put (b := w.heap.size) (RB.Is.put (b := w.heap.size) HY1.out HF1.out hz34 0 (.int .i64 n1)) HF1.out hz34 1 (.slice a1 len1 cap1))
    clear HA4 HB4 HK4 HY1
    go_wp2_with fail
    with_reducible refine (rslice_any ⟨m, b, len2, cap2, l2⟩ 0 n _ (by exact HY.out.keeps HK5.out)).mono ?_
    rw [sliceRes_front ⟨m, b, len2, cap2, l2⟩ n HC2.out hPn (by simp only; omega)]
    rintro e w6 ⟨y2, rfl, hy2, hf2, hk6⟩
    have HY2 := Lib.hid hy2
    have HF2 := Lib.hid hf2
    have HK6 := Lib.hid (HK5.out.trans hk6)
    have HA6 := Lib.hid (HA5.out.keeps hk6)
    have HB6 := Lib.hid (HB5.out.keeps hk6)
    have HY6 := Lib.hid (HY5.out.keeps hk6)
    have hzz6 := hk6.size
    have hz54 := HA5.out.lt
    have hz55 := HB5.out.lt
    clear hk6 HK5 HA5 HB5 HY5 ca0 ca1 caf hz34 hz44 cb0 cb1 hy2 hf2
    have ca0 := HA6.out.cell 0 _ rfl
    have ca1 := HA6.out.cell 1 _ rfl
    have cb0 := HB6.out.cell 0 _ rfl
    have cb1 := HB6.out.cell 1 _ rfl
    have cbf := HB6.out.frozen
    have hz65 := HB6.out.lt
    obtain ⟨n2, a2, lenb, capb, lb⟩ := y2
    have hfar : w.heap.size + 1 < w4.heap.size := by simpa using hz55
    have HB7 := Lib.hid ((HB6.out.put 0 (.int .i64 n2)).put 1 (.slice a2 lenb capb))
    have HA7 := Lib.hid ((HA6.out.keepsBut (KeepsBut.setCell w6 (w.heap.size + 1) 0 (.int .i64 n2)) (by omega)).keepsBut (KeepsBut.setCell _ (w.heap.size + 1) 1 (.slice a2 lenb capb)) (by omega))
    have HK7 := Lib.hid ((HK6.out.setCell (p := ⟨w.heap.size + 1, 0, none⟩) (by simp only; omega) (.int .i64 n2)).setCell (p := ⟨w.heap.size + 1, 1, none⟩) (by simp only; omega) (.slice a2 lenb capb))
    have HY7 := Lib.hid (RB.Is.put (b := w.heap.size + 1) (RB.Is.put (b := w.heap.size + 1) HY6.out HF1.out hz35 0 (.int .i64 n2)) HF1.out hz35 1 (.slice a2 lenb capb))
    have HZ7 := Lib.hid (RB.Is.put (b := w.heap.size + 1) (RB.Is.put (b := w.heap.size + 1) HY2.out HF2.out hz55 0 (.int .i64 n2)) HF2.out hz55 1 (.slice a2 lenb capb))
    clear HA6 HB6 HK6 HY6 HY2
    go_wp2_with fail
    have hl1 : (part (RB.bits ⟨n, a, len, cap, l⟩) 0 n.toNat).length = n.toNat := by
      rw [part_len _ _ _ (by unfold RB.bits; rw [unpack_len]; simp only; omega)]; rfl
    have hl2 : (part (RB.bits ⟨m, b, len2, cap2, l2⟩) 0 n.toNat).length = n.toNat := by
      rw [part_len _ _ _ (by unfold RB.bits; rw [unpack_len]; simp only; omega)]; rfl
    obtain ⟨bs, hbs⟩ : ∃ bs, bs = part (RB.bits ⟨n, a, len, cap, l⟩) 0 n.toNat := ⟨_, rfl⟩
    obtain ⟨cs, hcs⟩ : ∃ cs, cs = part (RB.bits ⟨m, b, len2, cap2, l2⟩) 0 n.toNat := ⟨_, rfl⟩
    rw [← hbs] at HY7 hl1
    rw [← hcs] at HZ7 hl2
    have hll : bs.length = cs.length := by rw [hl1, hl2]
    have HLL := Lib.hid hll
    have HLIN := Lib.hid (crcOver_xorL bs cs 0 0 hll (by decide) (by decide))
    have HXO := Lib.hid (xor_u32 (crcOver 0 bs) (crcOver 0 cs) (crcOver_lt _ _ (by decide)) (crcOver_lt _ _ (by decide)))
    clear hl1 hl2 hbs hcs hll ca0 ca1 cb0 cb1 cbf
    obtain ⟨w7, hw7⟩ : ∃ w7, w7 = ((w6.setCell ⟨w.heap.size + 1, 0, none⟩ (.int .i64 n2)).setCell ⟨w.heap.size + 1, 1, none⟩ (.slice a2 lenb capb)) := ⟨_, rfl⟩
    have hs7 : w6.heap.size = w7.heap.size := by rw [hw7]; simp
    rw [← hw7] at HA7 HB7 HK7 HY7 HZ7 ⊢
    rw [hs7]
    clear hw7 hs7 HF1 HF2 hzz6 hz54 hz55 hz65 hfar hz35
    with_reducible refine (sum_any _ 1 1 [⟨n1, a1, len1, cap1, l1⟩] _ (by exact RBs.one (Box.new _ _ _) (HY7.out.isIn.keeps ((Keeps.refl w7).alloc _)))).mono ?_
    rw [sumRes_one HY7.out]
    rintro e w8 ⟨rfl, hk8⟩
    have hk78 := ((Keeps.refl w7).alloc (.cells #[.int .i64 n1, .slice a1 len1 cap1] 32)).trans hk8
    have HK8 := Lib.hid (HK7.out.trans hk78)
    have HA8 := Lib.hid (HA7.out.keeps hk78)
    have HB8 := Lib.hid (HB7.out.keeps hk78)
    have HY8 := Lib.hid (HY7.out.keeps hk78)
    have HZ8 := Lib.hid (HZ7.out.keeps hk78)
    clear hk8 hk78 HK7 HA7 HB7 HY7 HZ7
    have cb0 := HB8.out.cell 0 _ rfl
    have cb1 := HB8.out.cell 1 _ rfl
    go_wp2_with fail
    with_reducible refine (sum_any _ 1 1 [⟨n2, a2, lenb, capb, lb⟩] _ (by exact RBs.one (Box.new _ _ _) (HZ8.out.isIn.keeps ((Keeps.refl w8).alloc _)))).mono ?_
    rw [sumRes_one HZ8.out]
    rintro e w9 ⟨rfl, hk9⟩
    have hk89 := ((Keeps.refl w8).alloc (.cells #[.int .i64 n2, .slice a2 lenb capb] 32)).trans hk9
    have HK9 := Lib.hid (HK8.out.trans hk89)
    have HA9 := Lib.hid (HA8.out.keeps hk89)
    have HB9 := Lib.hid (HB8.out.keeps hk89)
    have HY9 := Lib.hid (HY8.out.keeps hk89)
    have HZ9 := Lib.hid (HZ8.out.keeps hk89)
    clear hk9 hk89 HK8 HA8 HB8 HY8 HZ8 cb0 cb1
    have ca0 := HA9.out.cell 0 _ rfl
    have ca1 := HA9.out.cell 1 _ rfl
    have cb0 := HB9.out.cell 0 _ rfl
    have cb1 := HB9.out.cell 1 _ rfl
    go_wp2_with fail
    with_reducible refine (xor_any ⟨n1, a1, len1, cap1, l1⟩ ⟨n2, a2, lenb, capb, lb⟩ bs cs _ (by exact HY9.out) (by exact HZ9.out) (by exact HLL.out.symm)).mono ?_
    rw [flipIs_ones bs cs HLL.out]
    rintro e w10 ⟨z, rfl, hz, hk10⟩
    obtain ⟨n3, a3, len3, cap3, l3⟩ := z
    have HZZ := Lib.hid hz
    have HK10 := Lib.hid (HK9.out.trans hk10)
    clear hz hk10 HK9 HA9 HB9 HY9 HZ9 ca0 ca1 cb0 cb1
    go_wp2_with fail
    with_reducible refine (sum_any _ 1 1 [⟨n3, a3, len3, cap3, l3⟩] _ (by exact RBs.one (Box.new _ _ _) (HZZ.out.isIn.keeps ((Keeps.refl w10).alloc _)))).mono ?_
    rw [sumRes_one HZZ.out]
    rintro e w11 ⟨rfl, hk11⟩
    have HK11 := Lib.hid ((HK10.out.alloc (.cells #[.int .i64 n3, .slice a3 len3 cap3] 32)).trans hk11)
    clear hk11 HZZ HK10
    have hlin := HLIN.out
    rw [Nat.xor_self] at hlin
    have hxo := HXO.out
    rw [← hlin] at hxo
    obtain ⟨p1, hp1⟩ : ∃ p1 : Nat, p1 = crcOver 0 bs := ⟨_, rfl⟩
    obtain ⟨p2, hp2⟩ : ∃ p2 : Nat, p2 = crcOver 0 cs := ⟨_, rfl⟩
    obtain ⟨p3, hp3⟩ : ∃ p3 : Nat, p3 = crcOver 0 (xorL bs cs) := ⟨_, rfl⟩
    rw [← hp1, ← hp2, ← hp3] at hxo
    rw [← hp3] 
    simp only [← hp1, ← hp2]
    clear hlin hp1 hp2 hp3 HLIN HXO
    go_wp2_with fail
    go_ret
    exact ⟨ret_bool (by simp [hxo]), HK11.out⟩
  · have hbr : m ≤ n := by omega
    have hPn : 0 ≤ m := by have := (chk_parts HC.out).1; have := (chk_parts HC2.out).1; omega
    go_wp2_with fail
    with_reducible refine (rslice_any ⟨n, a, len, cap, l⟩ 0 m _ (by exact HX.out.keeps HK3.out)).mono ?_
    rw [sliceRes_front ⟨n, a, len, cap, l⟩ m HC.out hPn (by simp only; omega)]
    rintro e w4 ⟨y1, rfl, hy1, hf1, hk4⟩
    have HY1 := Lib.hid hy1
    have HF1 := Lib.hid hf1
    have HK4 := Lib.hid (HK3.out.trans hk4)
    have HA4 := Lib.hid (HA3.out.keeps hk4)
    have HB4 := Lib.hid (HB3.out.keeps hk4)
    have hz34 := HA3.out.lt
    have hz35 := HB3.out.lt
    clear hk4 HK3 HA3 HB3 ca0 ca1 cb0 cb1 hy1 hf1
    have ca0 := HA4.out.cell 0 _ rfl
    have ca1 := HA4.out.cell 1 _ rfl
    have caf := HA4.out.frozen
    have cb0 := HB4.out.cell 0 _ rfl
    have cb1 := HB4.out.cell 1 _ rfl
    have hz44 := HA4.out.lt
    obtain ⟨n1, a1, len1, cap1, l1⟩ := y1
    have HA5 := Lib.hid ((HA4.out.put 0 (.int .i64 n1)).put 1 (.slice a1 len1 cap1))
    have HB5 := Lib.hid ((HB4.out.keepsBut (KeepsBut.setCell w4 w.heap.size 0 (.int .i64 n1)) (by omega)).keepsBut (KeepsBut.setCell _ w.heap.size 1 (.slice a1 len1 cap1)) (by omega))
    have HK5 := Lib.hid ((HK4.out.setCell (p := ⟨w.heap.size, 0, none⟩) (Nat.le_refl _) (.int .i64 n1)).setCell (p := ⟨w.heap.size, 1, none⟩) (Nat.le_refl _) (.slice a1 len1 cap1))
    have HY5 := Lib.hid (RB.Is.put (b := w.heap.size) (RB.Is.put (b := w.heap.size) HY1.out HF1.out hz34 0 (.int .i64 n1)) HF1.out hz34 1 (.slice a1 len1 cap1))
    clear HA4 HB4 HK4 HY1
    go_wp2_with fail
    with_reducible refine (rslice_any ⟨m, b, len2, cap2, l2⟩ 0 m _ (by exact HY.out.keeps HK5.out)).mono ?_
    rw [sliceRes_front ⟨m, b, len2, cap2, l2⟩ m HC2.out hPn (by simp only; omega)]
    rintro e w6 ⟨y2, rfl, hy2, hf2, hk6⟩
    have HY2 := Lib.hid hy2
    have HF2 := Lib.hid hf2
    have HK6 := Lib.hid (HK5.out.trans hk6)
    have HA6 := Lib.hid (HA5.out.keeps hk6)
    have HB6 := Lib.hid (HB5.out.keeps hk6)
    have HY6 := Lib.hid (HY5.out.keeps hk6)
    have hzz6 := hk6.size
    have hz54 := HA5.out.lt
    have hz55 := HB5.out.lt
    clear hk6 HK5 HA5 HB5 HY5 ca0 ca1 caf hz34 hz44 cb0 cb1 hy2 hf2
    have ca0 := HA6.out.cell 0 _ rfl
    have ca1 := HA6.out.cell 1 _ rfl
    have cb0 := HB6.out.cell 0 _ rfl
    have cb1 := HB6.out.cell 1 _ rfl
    have cbf := HB6.out.frozen
    have hz65 := HB6.out.lt
    obtain ⟨n2, a2, lenb, capb, lb⟩ := y2
    have hfar : w.heap.size + 1 < w4.heap.size := by simpa using hz55
    have HB7 := Lib.hid ((HB6.out.put 0 (.int .i64 n2)).put 1 (.slice a2 lenb capb))
    have HA7 := Lib.hid ((HA6.out.keepsBut (KeepsBut.setCell w6 (w.heap.size + 1) 0 (.int .i64 n2)) (by omega)).keepsBut (KeepsBut.setCell _ (w.heap.size + 1) 1 (.slice a2 lenb capb)) (by omega))
    have HK7 := Lib.hid ((HK6.out.setCell (p := ⟨w.heap.size + 1, 0, none⟩) (by simp only; omega) (.int .i64 n2)).setCell (p := ⟨w.heap.size + 1, 1, none⟩) (by simp only; omega) (.slice a2 lenb capb))
    have HY7 := Lib.hid (RB.Is.put (b := w.heap.size + 1) (RB.Is.put (b := w.heap.size + 1) HY6.out HF1.out hz35 0 (.int .i64 n2)) HF1.out hz35 1 (.slice a2 lenb capb))
    have HZ7 := Lib.hid (RB.Is.put (b := w.heap.size + 1) (RB.Is.put (b := w.heap.size + 1) HY2.out HF2.out hz55 0 (.int .i64 n2)) HF2.out hz55 1 (.slice a2 lenb capb))
    clear HA6 HB6 HK6 HY6 HY2
    go_wp2_with fail
    have hl1 : (part (RB.bits ⟨n, a, len, cap, l⟩) 0 m.toNat).length = m.toNat := by
      rw [part_len _ _ _ (by unfold RB.bits; rw [unpack_len]; simp only; omega)]; rfl
    have hl2 : (part (RB.bits ⟨m, b, len2, cap2, l2⟩) 0 m.toNat).length = m.toNat := by
      rw [part_len _ _ _ (by unfold RB.bits; rw [unpack_len]; simp only; omega)]; rfl
    obtain ⟨bs, hbs⟩ : ∃ bs, bs = part (RB.bits ⟨n, a, len, cap, l⟩) 0 m.toNat := ⟨_, rfl⟩
    obtain ⟨cs, hcs⟩ : ∃ cs, cs = part (RB.bits ⟨m, b, len2, cap2, l2⟩) 0 m.toNat := ⟨_, rfl⟩
    rw [← hbs] at HY7 hl1
    rw [← hcs] at HZ7 hl2
    have hll : bs.length = cs.length := by rw [hl1, hl2]
    have HLL := Lib.hid hll
    have HLIN := Lib.hid (crcOver_xorL bs cs 0 0 hll (by decide) (by decide))
    have HXO := Lib.hid (xor_u32 (crcOver 0 bs) (crcOver 0 cs) (crcOver_lt _ _ (by decide)) (crcOver_lt _ _ (by decide)))
    clear hl1 hl2 hbs hcs hll ca0 ca1 cb0 cb1 cbf
    obtain ⟨w7, hw7⟩ : ∃ w7, w7 = ((w6.setCell ⟨w.heap.size + 1, 0, none⟩ (.int .i64 n2)).setCell ⟨w.heap.size + 1, 1, none⟩ (.slice a2 lenb capb)) := ⟨_, rfl⟩
    have hs7 : w6.heap.size = w7.heap.size := by rw [hw7]; simp
    rw [← hw7] at HA7 HB7 HK7 HY7 HZ7 ⊢
    rw [hs7]
    clear hw7 hs7 HF1 HF2 hzz6 hz54 hz55 hz65 hfar hz35
    with_reducible refine (sum_any _ 1 1 [⟨n1, a1, len1, cap1, l1⟩] _ (by exact RBs.one (Box.new _ _ _) (HY7.out.isIn.keeps ((Keeps.refl w7).alloc _)))).mono ?_
    rw [sumRes_one HY7.out]
    rintro e w8 ⟨rfl, hk8⟩
    have hk78 := ((Keeps.refl w7).alloc (.cells #[.int .i64 n1, .slice a1 len1 cap1] 32)).trans hk8
    have HK8 := Lib.hid (HK7.out.trans hk78)
    have HA8 := Lib.hid (HA7.out.keeps hk78)
    have HB8 := Lib.hid (HB7.out.keeps hk78)
    have HY8 := Lib.hid (HY7.out.keeps hk78)
    have HZ8 := Lib.hid (HZ7.out.keeps hk78)
    clear hk8 hk78 HK7 HA7 HB7 HY7 HZ7
    have cb0 := HB8.out.cell 0 _ rfl
    have cb1 := HB8.out.cell 1 _ rfl
    go_wp2_with fail
    with_reducible refine (sum_any _ 1 1 [⟨n2, a2, lenb, capb, lb⟩] _ (by exact RBs.one (Box.new _ _ _) (HZ8.out.isIn.keeps ((Keeps.refl w8).alloc _)))).mono ?_
    rw [sumRes_one HZ8.out]
    rintro e w9 ⟨rfl, hk9⟩
    have hk89 := ((Keeps.refl w8).alloc (.cells #[.int .i64 n2, .slice a2 lenb capb] 32)).trans hk9
    have HK9 := Lib.hid (HK8.out.trans hk89)
    have HA9 := Lib.hid (HA8.out.keeps hk89)
    have HB9 := Lib.hid (HB8.out.keeps hk89)
    have HY9 := Lib.hid (HY8.out.keeps hk89)
    have HZ9 := Lib.hid (HZ8.out.keeps hk89)
    clear hk9 hk89 HK8 HA8 HB8 HY8 HZ8 cb0 cb1
    have ca0 := HA9.out.cell 0 _ rfl
    have ca1 := HA9.out.cell 1 _ rfl
    have cb0 := HB9.out.cell 0 _ rfl
    have cb1 := HB9.out.cell 1 _ rfl
    go_wp2_with fail
    with_reducible refine (xor_any ⟨n1, a1, len1, cap1, l1⟩ ⟨n2, a2, lenb, capb, lb⟩ bs cs _ (by exact HY9.out) (by exact HZ9.out) (by exact HLL.out.symm)).mono ?_
    rw [flipIs_ones bs cs HLL.out]
    rintro e w10 ⟨z, rfl, hz, hk10⟩
    obtain ⟨n3, a3, len3, cap3, l3⟩ := z
    have HZZ := Lib.hid hz
    have HK10 := Lib.hid (HK9.out.trans hk10)
    clear hz hk10 HK9 HA9 HB9 HY9 HZ9 ca0 ca1 cb0 cb1
    go_wp2_with fail
    with_reducible refine (sum_any _ 1 1 [⟨n3, a3, len3, cap3, l3⟩] _ (by exact RBs.one (Box.new _ _ _) (HZZ.out.isIn.keeps ((Keeps.refl w10).alloc _)))).mono ?_
    rw [sumRes_one HZZ.out]
    rintro e w11 ⟨rfl, hk11⟩
    have HK11 := Lib.hid ((HK10.out.alloc (.cells #[.int .i64 n3, .slice a3 len3 cap3] 32)).trans hk11)
    clear hk11 HZZ HK10
    have hlin := HLIN.out
    rw [Nat.xor_self] at hlin
    have hxo := HXO.out
    rw [← hlin] at hxo
    obtain ⟨p1, hp1⟩ : ∃ p1 : Nat, p1 = crcOver 0 bs := ⟨_, rfl⟩
    obtain ⟨p2, hp2⟩ : ∃ p2 : Nat, p2 = crcOver 0 cs := ⟨_, rfl⟩
    obtain ⟨p3, hp3⟩ : ∃ p3 : Nat, p3 = crcOver 0 (xorL bs cs) := ⟨_, rfl⟩
    rw [← hp1, ← hp2, ← hp3] at hxo
    rw [← hp3] 
    simp only [← hp1, ← hp2]
    clear hlin hp1 hp2 hp3 HLIN HXO
    go_wp2_with fail
    go_ret
    exact ⟨ret_bool (by simp [hxo]), HK11.out⟩
end Go.Proofs.Ytkbdpdcandpfdaa
