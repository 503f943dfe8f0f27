/- The walk of CrcUnsent; bits that are not sent are told. -/
import Derived.Test.YtkbdpdcandpfdaaW27
namespace Go.Proofs.Ytkbdpdcandpfdaa
open Go.RowKit
set_option linter.unusedVariables false
set_option linter.unusedSimpArgs false

theorem xorL_self_ne : ∀ (bs cs : List Bool), bs.length = cs.length → xorL bs cs = List.replicate bs.length false → bs = cs
  | [], [], _, _ => rfl
  | b :: bs, c :: cs, hl, h => by
    have h' : (b ^^ c) :: xorL bs cs = false :: List.replicate bs.length false := h
    simp only [List.cons.injEq] at h'
    rw [xorL_self_ne bs cs (by simpa using hl) h'.2]
    congr 1
    revert h'
    cases b <;> cases c <;> simp
theorem xor_back (a b : Nat) : a ^^^ (a ^^^ b) = b := by rw [← Nat.xor_assoc, Nat.xor_self, Nat.zero_xor]
theorem xor_zero_eq {a b : Nat} (h : a ^^^ b = 0) : a = b := by
  have := xor_back a b
  rw [h, Nat.xor_zero] at this
  exact this
/-- up to 24 bits ahead that are others are told -/
theorem over_unsent (A B bs : List Bool) (hl : A.length = B.length) (h24 : A.length ≤ 24) (h : crcOver (crcOver 0 A) bs = crcOver (crcOver 0 B) bs) : A = B := by
  have hA : crcOver 0 A < 16777216 := crcOver_lt _ _ (by decide)
  have hB : crcOver 0 B < 16777216 := crcOver_lt _ _ (by decide)
  have h1 := crcOver_from (crcOver 0 A) (crcOver 0 A ^^^ crcOver 0 B) bs hA (xor_lt24 hA hB)
  rw [xor_back, ← h] at h1
  have h2 : crcOver (crcOver 0 A ^^^ crcOver 0 B) (List.replicate bs.length false) = 0 := by
    have := congrArg (fun n => crcOver (crcOver 0 A) bs ^^^ n) h1
    simp only [xor_back, Nat.xor_self] at this
    exact this.symm
  have h3 := over_zeros _ _ (xor_lt24 hA hB) h2
  have h4 := crcOver_xorL A B 0 0 hl (by decide) (by decide)
  rw [h3, Nat.xor_self] at h4
  have h5 := crcOver_few (xorL A B) (by rw [xorL_len _ _ hl]; exact h24) h4
  rw [xorL_len _ _ hl] at h5
  exact xorL_self_ne A B hl h5
theorem putRes_zero (v k : Nat) (hk : k ≤ 24) (hv : v < 2 ^ k) : putRes RB.zero v k = (numBits v k, 0) := by
  have h := putRes_is (RB.zero_is (default : World)) v k
  rw [h, if_pos]
  · unfold ofRes
    rw [List.nil_append, Int.toNat_natCast, if_pos (by rw [numBits_len]; omega)]
  · simp only [putArg, Bool.and_eq_true, decide_eq_true_eq, Int.toNat_natCast]
    exact ⟨by omega, by omega, hv⟩
theorem zero_in (w : World) : RB.In ⟨0, none, 0, 0, []⟩ w := (RB.zero_is w).isIn
theorem putRes_zero' (v k : Nat) (hk : k ≤ 24) (hv : v < 2 ^ k) : putRes ⟨0, none, 0, 0, []⟩ v k = (numBits v k, 0) := putRes_zero v k hk hv
theorem low_bits (m k : Nat) (hm : m < 4294967296) (hk : k ≤ 24) : bits .and .u64 (m : Int) (IntKind.u64.wrap (IntKind.u64.wrap ((2 : Int) ^ k) - 1)) = ((m % 2 ^ k : Nat) : Int) := by
  have hp : 2 ^ k ≤ 2 ^ 24 := Nat.pow_le_pow_right (by decide) hk
  have hp1 : 0 < 2 ^ k := Nat.pow_pos (by decide)
  have e : ((2 : Int) ^ k - 1) = ((2 ^ k - 1 : Nat) : Int) := by
    have : ((2 ^ k : Nat) : Int) = (2 : Int) ^ k := by simp
    omega
  have e2 : ((2 : Int) ^ k) = ((2 ^ k : Nat) : Int) := by simp
  have w1 : IntKind.u64.wrap ((2 : Int) ^ k) = (2 : Int) ^ k := IntWalk.u64_in _ (by rw [e2]; omega)
  have w2 : IntKind.u64.wrap ((2 : Int) ^ k - 1) = (2 : Int) ^ k - 1 := IntWalk.u64_in _ (by rw [e]; omega)
  rw [w1, w2, e, u64_and_nat _ _ (by omega) (by omega), Nat.and_two_pow_sub_one_eq_mod]

set_option maxHeartbeats 2000000 in
set_option maxRecDepth 100000 in
theorem crcUnsent_any (x : RB) (mine other width : Nat) (w : World) (hx : x.In w) (hm : mine < 4294967296) (ho : other < 4294967296) (hwd : width < 256) :
    Calls Try.prog 9 #[x.val, .int .u32 mine, .int .u32 other, .int .u8 width] w fun e w' => e = .returned (.bool true) ∧ Keeps w w' := by
  have HX := Lib.hid hx
  clear hx
  obtain ⟨n, a, len, cap, l⟩ := x
  obtain ⟨k, hk⟩ : ∃ k, k = width % 25 := ⟨_, rfl⟩
  have hk24 : k ≤ 24 := by omega
  have hw1 : ((width : Int) % 25) = k := by omega
  have hw2 : ((width : Int).tmod 25) = k := by rw [Int.tmod_eq_emod_of_nonneg (by omega)]; exact hw1
  clear hk
  have HL1 := Lib.hid (low_bits mine k hm hk24)
  have HL2 := Lib.hid (low_bits other k ho hk24)
  show Calls Try.prog 9 #[.agg #[.int .i64 n, .slice a len cap], .int .u32 mine, .int .u32 other, .int .u8 width] w _
  have HK := Lib.hid ((Keeps.refl w).alloc (.cells #[.int .i64 n, .slice a len cap] 32))
  have ha := (Box.new w 32 #[.int .i64 n, .slice a len cap])
  have HA := Lib.hid ha
  clear ha
  go_enter Try.func9, Try.ntmps9
  go_wp2_with fail
  rw [HL1.out]
  with_reducible refine (rput_any ⟨0, none, 0, 0, []⟩ (mine % 2 ^ k) k _ (by exact zero_in _) (by have := Nat.mod_lt mine (show 0 < 2 ^ k from Nat.pow_pos (by decide)); have : 2 ^ k ≤ 2 ^ 24 := Nat.pow_le_pow_right (by decide) hk24; omega)).mono ?_
  rw [putRes_zero' _ _ hk24 (Nat.mod_lt _ (Nat.pow_pos (by decide)))]
  rintro e w1 ⟨y, rfl, hy, hf, hk1⟩
  obtain ⟨n1, a1, len1, cap1, l1⟩ := y
  have HY1 := Lib.hid hy
  clear hy hf
  have hkk := hk1
  replace HK := Lib.hid (HK.out.trans hkk)
  replace HA := Lib.hid (HA.out.keeps hkk)
  clear hkk hk1
  have ha0 := HA.out.cell 0 _ rfl
  have ha1 := HA.out.cell 1 _ rfl
  have hal := HA.out.lt
  go_wp2_with fail
  rw [HL2.out]
  with_reducible refine (rput_any ⟨0, none, 0, 0, []⟩ (other % 2 ^ k) k _ (by exact zero_in _) (by have := Nat.mod_lt other (show 0 < 2 ^ k from Nat.pow_pos (by decide)); have : 2 ^ k ≤ 2 ^ 24 := Nat.pow_le_pow_right (by decide) hk24; omega)).mono ?_
  rw [putRes_zero' _ _ hk24 (Nat.mod_lt _ (Nat.pow_pos (by decide)))]
  rintro e w2 ⟨y, rfl, hy, hf, hk2⟩
  obtain ⟨n2, a2, len2, cap2, l2⟩ := y
  have HY2 := Lib.hid hy
  clear hy hf
  clear ha0 ha1 hal
  have hkk := ((Keeps.refl w1).alloc (.cells #[.int .i64 n1, .slice a1 len1 cap1] 32)).trans hk2
  have HC := Lib.hid ((Box.new w1 32 #[.int .i64 n1, .slice a1 len1 cap1]).keeps hk2)
  replace HK := Lib.hid (HK.out.trans hkk)
  replace HA := Lib.hid (HA.out.keeps hkk)
  replace HY1 := Lib.hid (HY1.out.keeps hkk)
  clear hkk hk2
  have ha0 := HA.out.cell 0 _ rfl
  have ha1 := HA.out.cell 1 _ rfl
  have hal := HA.out.lt
  have hc0 := HC.out.cell 0 _ rfl
  have hc1 := HC.out.cell 1 _ rfl
  have hcl := HC.out.lt
  go_wp2_with fail
  refine (begun2_any _).mono ?_
  rintro e w3 ⟨rfl, hk3⟩
  clear ha0 ha1 hal hc0 hc1 hcl
  have hkk := ((Keeps.refl w2).alloc (.cells #[.int .i64 n2, .slice a2 len2 cap2] 32)).trans hk3
  have HD := Lib.hid ((Box.new w2 32 #[.int .i64 n2, .slice a2 len2 cap2]).keeps hk3)
  replace HK := Lib.hid (HK.out.trans hkk)
  replace HA := Lib.hid (HA.out.keeps hkk)
  replace HC := Lib.hid (HC.out.keeps hkk)
  replace HY1 := Lib.hid (HY1.out.keeps hkk)
  replace HY2 := Lib.hid (HY2.out.keeps hkk)
  clear hkk hk3
  have ha0 := HA.out.cell 0 _ rfl
  have ha1 := HA.out.cell 1 _ rfl
  have hal := HA.out.lt
  have hc0 := HC.out.cell 0 _ rfl
  have hc1 := HC.out.cell 1 _ rfl
  have hcl := HC.out.lt
  have hd0 := HD.out.cell 0 _ rfl
  have hd1 := HD.out.cell 1 _ rfl
  have hdl := HD.out.lt
  go_wp2_with fail
  with_reducible refine (seal_any ⟨n, a, len, cap, l⟩ ⟨n1, a1, len1, cap1, l1⟩ _ (by exact HX.out.keeps HK.out) (by exact HY1.out.isIn)).mono ?_
  rcases seal_cases ⟨n, a, len, cap, l⟩ ⟨n1, a1, len1, cap1, l1⟩ with ⟨c, hc, hr⟩ | ⟨hcx, hcu, hr⟩
  · rw [hr]
    clear hr
    have hd := ne_true hc
    rintro e w4 ⟨y, rfl, hy, -, hk4⟩
    clear hy
    obtain ⟨n4, a4, len4, cap4, l4⟩ := y
    replace HK := Lib.hid (HK.out.trans hk4)
    clear hk4
    go_wp2_with fail
    go_ret
    exact ⟨rfl, HK.out.alloc _⟩
  rw [hr]
  have hs := crcOver_lt (RB.bits ⟨n, a, len, cap, l⟩) (crcOver 0 (RB.bits ⟨n1, a1, len1, cap1, l1⟩)) (crcOver_lt _ _ (by decide))
  rw [HY1.out.bits] at hs ⊢
  obtain ⟨bs, hbs⟩ : ∃ bs, bs = RB.bits ⟨n, a, len, cap, l⟩ := ⟨_, rfl⟩
  rw [← hbs] at hs ⊢
  obtain ⟨A, hA⟩ : ∃ A, A = numBits (mine % 2 ^ k) k := ⟨_, rfl⟩
  obtain ⟨B, hB⟩ : ∃ B, B = numBits (other % 2 ^ k) k := ⟨_, rfl⟩
  have hAl : A.length = k := by rw [hA, numBits_len]
  have hBl : B.length = k := by rw [hB, numBits_len]
  rw [← hA] at hs ⊢
  rw [← hA] at HY1
  rw [← hB] at HY2
  obtain ⟨s, hss⟩ : ∃ s, s = crcOver (crcOver 0 A) bs := ⟨_, rfl⟩
  rw [← hss] at hs ⊢
  have HOV : Hid (s = crcOver (crcOver 0 B) bs ↔ A = B) := by
    rw [hss]
    exact ⟨over_unsent A B bs (by omega) (by omega), fun h => by rw [h]⟩
  clear hr hcx hcu hbs hss hA hB hAl hBl HL1 HL2
  rintro e w4 ⟨y, rfl, hy, -, hk4⟩
  obtain ⟨n4, a4, len4, cap4, l4⟩ := y
  have HY4 := Lib.hid hy
  clear hy
  clear ha0 ha1 hal hc0 hc1 hcl hd0 hd1 hdl
  have hkk := hk4
  replace HK := Lib.hid (HK.out.trans hkk)
  replace HA := Lib.hid (HA.out.keeps hkk)
  replace HC := Lib.hid (HC.out.keeps hkk)
  replace HD := Lib.hid (HD.out.keeps hkk)
  replace HY1 := Lib.hid (HY1.out.keeps hkk)
  replace HY2 := Lib.hid (HY2.out.keeps hkk)
  clear hkk hk4
  have ha0 := HA.out.cell 0 _ rfl
  have ha1 := HA.out.cell 1 _ rfl
  have hal := HA.out.lt
  have hc0 := HC.out.cell 0 _ rfl
  have hc1 := HC.out.cell 1 _ rfl
  have hcl := HC.out.lt
  have hd0 := HD.out.cell 0 _ rfl
  have hd1 := HD.out.cell 1 _ rfl
  have hdl := HD.out.lt
  go_wp2_with fail
  with_reducible refine (open_any ⟨n4, a4, len4, cap4, l4⟩ ⟨n2, a2, len2, cap2, l2⟩ _ (by exact (HY4.out.keeps ((Keeps.refl _).alloc _)).isIn) (by exact (HY2.out.keeps ((Keeps.refl _).alloc _)).isIn)).mono ?_
  rw [openRes_is HY4.out HY2.out.chk, openIs_at bs _ s hs, HY2.out.bits]
  by_cases hAB : A = B
  · skip
    have HAB := Lib.hid hAB
    rw [if_pos (HOV.out.2 hAB)]
    clear hAB
    rintro e w5 ⟨y, rfl, hy, -, hk5⟩
    obtain ⟨n5, a5, len5, cap5, l5⟩ := y
    clear hy
    clear ha0 ha1 hal hc0 hc1 hcl hd0 hd1 hdl
    have hkk := ((Keeps.refl w4).alloc (.cells #[.int .i64 n4, .slice a4 len4 cap4] 32)).trans hk5
    have HE := Lib.hid ((Box.new w4 32 #[.int .i64 n4, .slice a4 len4 cap4]).keeps hk5)
    replace HK := Lib.hid (HK.out.trans hkk)
    replace HA := Lib.hid (HA.out.keeps hkk)
    replace HC := Lib.hid (HC.out.keeps hkk)
    replace HD := Lib.hid (HD.out.keeps hkk)
    replace HY1 := Lib.hid (HY1.out.keeps hkk)
    replace HY2 := Lib.hid (HY2.out.keeps hkk)
    replace HY4 := Lib.hid (HY4.out.keeps hkk)
    clear hkk hk5
    have ha0 := HA.out.cell 0 _ rfl
    have ha1 := HA.out.cell 1 _ rfl
    have hal := HA.out.lt
    have hc0 := HC.out.cell 0 _ rfl
    have hc1 := HC.out.cell 1 _ rfl
    have hcl := HC.out.lt
    have hd0 := HD.out.cell 0 _ rfl
    have hd1 := HD.out.cell 1 _ rfl
    have hdl := HD.out.lt
    have he0 := HE.out.cell 0 _ rfl
    have he1 := HE.out.cell 1 _ rfl
    have hel := HE.out.lt
    go_wp2_with fail
    with_reducible refine (same_is ⟨n1, a1, len1, cap1, l1⟩ ⟨n2, a2, len2, cap2, l2⟩ A B _ (by exact HY1.out.keeps ((Keeps.refl _).alloc _)) (by exact HY2.out.keeps ((Keeps.refl _).alloc _))).mono ?_
    rw [decide_eq_true HAB.out]
    rintro e w6 ⟨rfl, hk6⟩
    replace HK := Lib.hid ((HK.out.alloc _).trans hk6)
    clear hk6
    go_wp2_with fail
    go_ret
    exact ⟨rfl, HK.out⟩
  · skip
    have HAB := Lib.hid hAB
    rw [if_neg (fun h => hAB (HOV.out.1 h))]
    clear hAB
    rintro e w5 ⟨y, rfl, hy, -, hk5⟩
    obtain ⟨n5, a5, len5, cap5, l5⟩ := y
    clear hy
    clear ha0 ha1 hal hc0 hc1 hcl hd0 hd1 hdl
    have hkk := ((Keeps.refl w4).alloc (.cells #[.int .i64 n4, .slice a4 len4 cap4] 32)).trans hk5
    have HE := Lib.hid ((Box.new w4 32 #[.int .i64 n4, .slice a4 len4 cap4]).keeps hk5)
    replace HK := Lib.hid (HK.out.trans hkk)
    replace HA := Lib.hid (HA.out.keeps hkk)
    replace HC := Lib.hid (HC.out.keeps hkk)
    replace HD := Lib.hid (HD.out.keeps hkk)
    replace HY1 := Lib.hid (HY1.out.keeps hkk)
    replace HY2 := Lib.hid (HY2.out.keeps hkk)
    replace HY4 := Lib.hid (HY4.out.keeps hkk)
    clear hkk hk5
    have ha0 := HA.out.cell 0 _ rfl
    have ha1 := HA.out.cell 1 _ rfl
    have hal := HA.out.lt
    have hc0 := HC.out.cell 0 _ rfl
    have hc1 := HC.out.cell 1 _ rfl
    have hcl := HC.out.lt
    have hd0 := HD.out.cell 0 _ rfl
    have hd1 := HD.out.cell 1 _ rfl
    have hdl := HD.out.lt
    have he0 := HE.out.cell 0 _ rfl
    have he1 := HE.out.cell 1 _ rfl
    have hel := HE.out.lt
    go_wp2_with fail
    with_reducible refine (same_is ⟨n1, a1, len1, cap1, l1⟩ ⟨n2, a2, len2, cap2, l2⟩ A B _ (by exact HY1.out.keeps ((Keeps.refl _).alloc _)) (by exact HY2.out.keeps ((Keeps.refl _).alloc _))).mono ?_
    rw [decide_eq_false HAB.out]
    rintro e w6 ⟨rfl, hk6⟩
    replace HK := Lib.hid ((HK.out.alloc _).trans hk6)
    clear hk6
    go_wp2_with fail
    go_ret
    exact ⟨rfl, HK.out⟩
end Go.Proofs.Ytkbdpdcandpfdaa
