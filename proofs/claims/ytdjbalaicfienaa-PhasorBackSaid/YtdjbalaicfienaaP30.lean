/- The walk of PhasorBack. -/
import Derived.Test.YtdjbalaicfienaaP9
import Derived.Test.YtdjbalaicfienaaP28
import Derived.Test.YtdjbalaicfienaaP29
import Derived.Test.YtdjbalaicfienaaW16
namespace Go.Proofs.Ytdjbalaicfienaa
open Go.RowKit
set_option linter.unusedVariables false
set_option linter.unusedSimpArgs false
theorem enc_fails (x : RB) (amp : Int) (h : ¬ (chk x.n x.l = true ∧ (1 ≤ amp ∧ amp ≤ 65536) ∧ x.n ≤ 4095)) : ∃ E, encRes x amp = ([], E) ∧ E ≠ 0 := by
  cases hc : chk x.n x.l
  · exact ⟨10, encRes_no x amp hc, by decide⟩
  by_cases h2 : 1 ≤ amp ∧ amp ≤ 65536
  · exact ⟨3, encRes_long x amp hc h2 (fun h3 => h ⟨hc, h2, h3⟩), by decide⟩
  · exact ⟨30, encRes_amp x amp hc h2, by decide⟩
theorem make_fullU (A : Int) (L : Nat) (h : A = L) (hL : L ≤ 100000) : ∃ Z : Array Value, (∀ w : World, (Instr.makeSlice 52 (.int .u8 A) (.int .u8 A)).run Try.prog w = .ok (.slice (some ⟨w.heap.size, 0, none⟩) L L) (w.alloc (.cells Z 63))) ∧ ∀ w : World, OwnP (w.alloc (.cells Z 63)) w.heap.size (.slice (some ⟨w.heap.size, 0, none⟩) L L) (List.replicate L ⟨0, 0⟩) := by
  subst h
  obtain ⟨Z, -, h2⟩ := make_full L L rfl hL
  obtain ⟨i, hi, hz0, hz1, hz2⟩ := info_parts infoSmp
  refine ⟨madeCells (Value.agg #[.int .i64 0, .int .i64 0]).cells (L * 2), fun w => ?_, fun w => ?_⟩
  · have hr := run_make (P := Try.prog) w 52 63 i _ Try.underlying52 hi hz0 .u8 .u8 L L (by omega) (Int.le_refl _) (by rw [hz2]; omega) (by omega)
    rw [hz1] at hr
    simpa using hr
  · refine ⟨by rw [sCells_length], .inr ⟨w.heap.size, L, _, by rw [List.length_replicate], Nat.le_refl _, heap_alloc_new w _, by rw [List.length_replicate]; exact Nat.le_refl _, by unfold maxLen; omega, size_madeCells _ _, ?_⟩⟩
    rw [madeCells_zero, List.take_of_length_le]
    rw [sCells_length, List.length_replicate]
    exact Nat.le_refl _
theorem SRs.two {w : World} {b : Nat} {a a2 : Option Addr} {n cap n2 cap2 : Nat} {xs ys : List Smp} (hx : SRow w a n cap xs) (hy : SRow w a2 n2 cap2 ys) (hb : Box w b 52 #[.slice a n cap, .slice a2 n2 cap2]) : SRs w (some ⟨b, 0, none⟩) 2 2 [⟨a, cap, xs⟩, ⟨a2, cap2, ys⟩] := by
  have hl := hx.len
  have hl2 := hy.len
  subst hl hl2
  refine ⟨rfl, Nat.le_refl _, by decide, fun x h => ?_, fun i hi => ?_⟩
  · simp only [List.mem_cons, List.not_mem_nil, or_false] at h
    rcases h with rfl | rfl
    · exact hx
    · exact hy
  · have : i = 0 ∨ i = 1 := by simp only [List.length_cons, List.length_nil] at hi; omega
    rcases this with rfl | rfl
    · exact ⟨b, 0, rfl, hb.cell 0 _ rfl⟩
    · exact ⟨b, 0, rfl, hb.cell 1 _ rfl⟩
set_option maxRecDepth 100000 in
set_option maxHeartbeats 8000000 in
theorem phasorBack_any (x : RB) (amp q ah : Int) (w : World) (hx : x.In w) (q1 : -9223372036854775808 ≤ q) (q2 : q ≤ 9223372036854775807) (ha0 : 0 ≤ ah) (ha1 : ah ≤ 255) :
    Calls Try.prog 13 #[x.val, .int .i64 amp, .int .i64 q, .int .u8 ah] w fun e w' => e = .returned (.bool true) ∧ Keeps w w' := by
  have HX := Lib.hid hx
  clear hx
  by_cases hok : chk x.n x.l = true ∧ (1 ≤ amp ∧ amp ≤ 65536) ∧ x.n ≤ 4095
  case neg =>
    obtain ⟨E, hE, hE0⟩ := enc_fails x amp hok
    have HR := Lib.hid hE
    have d0 : decide (E = 0) = false := decide_eq_false hE0
    clear hE hok
    obtain ⟨xn, a, len, cap, l⟩ := x
    show Calls Try.prog 13 #[.agg #[.int .i64 xn, .slice a len cap], .int .i64 amp, .int .i64 q, .int .u8 ah] w _
    have HK := Lib.hid ((Keeps.refl w).alloc (.cells #[.int .i64 xn, .slice a len cap] 26))
    go_enter Try.func13, Try.ntmps13
    go_wp2_with fail
    with_reducible refine (encode_any ⟨xn, a, len, cap, l⟩ amp _ (by exact HX.out.keeps HK.out)).mono ?_
    rw [HR.out]
    rintro e w1 ⟨v1, rfl, ho1, hk1⟩
    replace HK := Lib.hid (HK.out.trans hk1)
    clear ho1 hk1
    go_wp2_with fail
    with_reducible refine (begun3_any _).mono ?_
    rintro e w3 ⟨rfl, hk3⟩
    replace HK := Lib.hid (HK.out.trans hk3)
    clear hk3
    go_wp2_with fail
    with_reducible refine (begun3_any _).mono ?_
    rintro e w4 ⟨rfl, hk4⟩
    go_wp2_with fail
    go_ret
    exact ⟨rfl, HK.out.trans hk4⟩
  obtain ⟨hc, ⟨hamp1, hamp2⟩, hn4⟩ := hok
  have hR := encRes_yes x amp hc ⟨hamp1, hamp2⟩ hn4
  have hIs := HX.out.is hc
  obtain ⟨bs, hbs⟩ : ∃ bs, bs = x.bits := ⟨_, rfl⟩
  rw [← hbs] at hR
  have hI2 : x.Is w bs := by rw [hbs]; exact hIs
  clear hbs hIs
  have hbl : bs.length ≤ 4095 := by have := hI2.n; omega
  have HR := Lib.hid hR
  have HI := Lib.hid hI2
  obtain ⟨D, hD⟩ : ∃ D : Nat, ah % 4 = D := ⟨(ah % 4).toNat, by omega⟩
  have hD3 : D ≤ 3 := by omega
  have hD2 : ah.tmod 4 = D := by rw [Int.tmod_eq_emod_of_nonneg ha0]; exact hD
  have HA := Lib.hid (back_rec D bs amp q hamp1 hamp2 hD3 hbl)
  have HFI := Lib.hid (back_find D bs amp q hamp1 hamp2 hD3)
  have hBL := behind_len D bs amp
  have HTR : Hid (turnRes (behind D bs amp) q = (backS D bs amp q, 0)) := Lib.hid (by unfold turnRes; rw [allB_behind D bs amp hamp1 hamp2]; rfl)
  obtain ⟨K, hK4, hq, hm⟩ := qOf_cases q
  rw [hq] at HFI
  have hb1 := Int.tmod_lt_of_pos q (show (0 : Int) < 4 by decide)
  have hb2 := Int.lt_tmod_of_pos q (show (0 : Int) < 4 by decide)
  have hw : IntKind.i64.wrap (q.tmod 4 + 4) = q.tmod 4 + 4 := by simp [IntKind.wrap, IntKind.bits, IntKind.signed]; omega
  have hair : airN (bs.length : Nat) = ((14 + (bs.length + 1) / 2 : Nat) : Int) := by unfold airN; rw [if_neg (by omega)]; omega
  obtain ⟨M, hM⟩ : ∃ M, M = (bs.length + 1) / 2 := ⟨_, rfl⟩
  rw [← hM] at hair hBL
  have hM2 : M ≤ 2048 := by omega
  have hwD : IntKind.u8.wrap (D : Int) = D := by simp [IntKind.wrap, IntKind.bits, IntKind.signed]; omega
  have hwD2 : IntKind.i64.wrap (D : Int) = D := by simp [IntKind.wrap, IntKind.bits, IntKind.signed]; omega
  obtain ⟨Z, hmk, hown⟩ := make_fullU (D : Int) D rfl (by omega)
  obtain ⟨a, cap, rfl⟩ := hI2.shape
  clear hc hn4 hR hI2 hq hM
  show Calls Try.prog 13 #[.agg #[.int .i64 bs.length, .slice a ((bs.length + 7) / 8) cap], .int .i64 amp, .int .i64 q, .int .u8 ah] w _
  have HB := Lib.hid (Box.new w 26 #[.int .i64 bs.length, .slice a ((bs.length + 7) / 8) cap])
  have HK := Lib.hid ((Keeps.refl w).alloc (.cells #[.int .i64 bs.length, .slice a ((bs.length + 7) / 8) cap] 26))
  go_enter Try.func13, Try.ntmps13
  go_wp2_with fail
  with_reducible refine (encode_any ⟨bs.length, a, (bs.length + 7) / 8, cap, pack bs⟩ amp _ (by exact HX.out.keeps HK.out)).mono ?_
  rw [HR.out]
  rintro e w1 ⟨v1, rfl, ho1, hk1⟩
  obtain ⟨a1, c1, rfl, hr1, -⟩ := ho1.shape
  have HR1 := Lib.hid hr1
  replace HB := Lib.hid (HB.out.keeps hk1)
  replace HK := Lib.hid (HK.out.trans hk1)
  clear ho1 hr1 hk1
  go_wp2_with fail
  with_reducible refine (begun3_any _).mono ?_
  rintro e w3 ⟨rfl, hk3⟩
  replace HR1 := Lib.hid (HR1.out.keeps hk3)
  replace HB := Lib.hid (HB.out.keeps hk3)
  replace HK := Lib.hid (HK.out.trans hk3)
  clear hk3
  obtain ⟨az, cz, hez, hrz, -⟩ := (hown w3).shape
  simp only [List.length_replicate, Value.slice.injEq] at hez hrz
  obtain ⟨rfl, -, rfl⟩ := hez
  have HRZ := Lib.hid hrz
  clear hown hrz
  go_wp2_with fail
  have hel : (encS bs amp).length = 14 + M := by have := hBL; unfold behind at this; rw [List.length_append, List.length_replicate] at this; omega
  have HBX := Lib.hid (Box.new (w3.alloc (.cells Z 63)) 52 #[.slice (some ⟨w3.heap.size, 0, none⟩) D D, .slice a1 (encS bs amp).length c1])
  have hkz := (Keeps.refl w3).alloc (.cells Z 63)
  have hky := (Keeps.refl (w3.alloc (.cells Z 63))).alloc (.cells #[.slice (some ⟨w3.heap.size, 0, none⟩) D D, .slice a1 (encS bs amp).length c1] 52)
  have HSS := Lib.hid (SRs.two (HRZ.out.keeps hky) (HR1.out.keeps (hkz.trans hky)) HBX.out)
  rw [show (w3.alloc (.cells Z 63)).heap.size = w3.heap.size + 1 by simp] at HSS
  have hcat : catTo [⟨some ⟨w3.heap.size, 0, none⟩, D, List.replicate D ⟨0, 0⟩⟩, ⟨a1, c1, encS bs amp⟩] 2 = behind D bs amp := by simp [catTo, behind]
  replace HK := Lib.hid (HK.out.trans (hkz.trans hky))
  replace HB := Lib.hid (HB.out.keeps (hkz.trans hky))
  clear hkz hky HBX HRZ HR1
  with_reducible refine (concat_any (some ⟨w3.heap.size + 1, 0, none⟩) 2 2 [⟨some ⟨w3.heap.size, 0, none⟩, D, List.replicate D ⟨0, 0⟩⟩, ⟨a1, c1, encS bs amp⟩] _ (by exact HSS.out) (by rw [show ([⟨some ⟨w3.heap.size, 0, none⟩, D, List.replicate D ⟨0, 0⟩⟩, ⟨a1, c1, encS bs amp⟩] : List RS).length = 2 from rfl, hcat, hBL]; omega) (by rw [show ([⟨some ⟨w3.heap.size, 0, none⟩, D, List.replicate D ⟨0, 0⟩⟩, ⟨a1, c1, encS bs amp⟩] : List RS).length = 2 from rfl, hcat, hBL]; omega) (by simp)).mono ?_
  rw [show ([⟨some ⟨w3.heap.size, 0, none⟩, D, List.replicate D ⟨0, 0⟩⟩, ⟨a1, c1, encS bs amp⟩] : List RS).length = 2 from rfl, hcat]
  rintro e w5 ⟨v5, rfl, ho5, hk5⟩
  obtain ⟨a5, c5, rfl, hr5, -⟩ := ho5.shape
  rw [hBL] at hr5 ⊢
  have HR5 := Lib.hid hr5
  replace HB := Lib.hid (HB.out.keeps hk5)
  replace HK := Lib.hid (HK.out.trans hk5)
  clear ho5 hr5 hk5 HSS hcat
  obtain ⟨L, hL⟩ : ∃ L, D + (14 + M) = L := ⟨_, rfl⟩
  rw [hL] at HR5 hBL ⊢
  go_wp2_with fail
  with_reducible refine (turn_any a5 L c5 _ q _ (by exact HR5.out) (by omega) q1 q2).mono ?_
  rw [HTR.out]
  rintro e w6 ⟨v6, rfl, ho6, hk6⟩
  obtain ⟨a6, c6, rfl, hr6, -⟩ := ho6.shape
  simp only [show (backS D bs amp q).length = L by unfold backS; rw [List.length_map]; exact hBL] at hr6 ⊢
  have HR6 := Lib.hid hr6
  replace HB := Lib.hid (HB.out.keeps hk6)
  replace HK := Lib.hid (HK.out.trans hk6)
  clear ho6 hr6 hk6
  go_wp2_with fail
  with_reducible refine (find_any a6 L c6 _ 0 _ (by exact HR6.out) (by omega) (by decide)).mono ?_
  rw [HFI.out]
  rintro e w7 ⟨rfl, hk7⟩
  replace HR6 := Lib.hid (HR6.out.keeps hk7)
  replace HB := Lib.hid (HB.out.keeps hk7)
  replace HK := Lib.hid (HK.out.trans hk7)
  clear hk7
  go_wp2_with fail
  with_reducible refine (receive_any a6 L c6 _ _ (by exact HR6.out) (by omega)).mono ?_
  rw [HA.out]
  rintro e w8 ⟨y8, rfl, hy8, -, hk8⟩
  obtain ⟨a8, c8, rfl⟩ := hy8.shape
  simp only [RB.val]
  have HY8 := Lib.hid hy8
  replace HB := Lib.hid (HB.out.keeps hk8)
  replace HK := Lib.hid (HK.out.trans hk8)
  have HB8 := Lib.hid (Box.new w8 26 #[.int .i64 bs.length, .slice a8 ((bs.length + 7) / 8) c8])
  have ht8 := (Keeps.refl w8).alloc (.cells #[.int .i64 bs.length, .slice a8 ((bs.length + 7) / 8) c8] 26)
  replace HB := Lib.hid (HB.out.keeps ht8)
  replace HK := Lib.hid (HK.out.trans ht8)
  replace HY8 := Lib.hid (HY8.out.keeps ht8)
  clear hy8 hk8 ht8
  have b0 := HB.out.cell 0 _ rfl
  have b1 := HB.out.cell 1 _ rfl
  have e0 := HB8.out.cell 0 _ rfl
  have e1 := HB8.out.cell 1 _ rfl
  go_wp2_with fail
  with_reducible refine (same_is ⟨bs.length, a, (bs.length + 7) / 8, cap, pack bs⟩ ⟨bs.length, a8, (bs.length + 7) / 8, c8, pack bs⟩ bs bs _ (by exact HI.out.keeps HK.out) (by exact HY8.out)).mono ?_
  rintro e w9 ⟨rfl, hk9⟩
  rw [decide_eq_true rfl]
  replace HB := Lib.hid (HB.out.keeps hk9)
  replace HK := Lib.hid (HK.out.trans hk9)
  clear hk9 b0 b1 e0 e1 HB8 HY8
  have b0 := HB.out.cell 0 _ rfl
  have b1 := HB.out.cell 1 _ rfl
  have bl := HB.out.lt
  have hwa : IntKind.i64.wrap (((14 + M : Nat) : Int) + (D : Int)) = (L : Int) := by simp [IntKind.wrap, IntKind.bits, IntKind.signed]; omega
  go_wp2_with fail
  with_reducible refine (air_any bs.length _).mono ?_
  rw [hair]
  rintro e w10 ⟨rfl, rfl⟩
  obtain ⟨Y, hY⟩ : ∃ Y, 14 + M = Y := ⟨_, rfl⟩
  rw [hY] at hwa ⊢
  go_wp2_with fail
  go_ret
  exact ⟨rfl, HK.out⟩
end Go.Proofs.Ytdjbalaicfienaa
