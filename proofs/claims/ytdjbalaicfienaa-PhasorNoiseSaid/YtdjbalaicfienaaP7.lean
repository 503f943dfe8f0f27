/- The walks of layer 3, 6: Encode. -/
import Derived.Test.YtdjbalaicfienaaP6
import Derived.Test.YtdjbalaicfienaaW15
import Derived.Laws.MakeOwn
import Derived.Deep.DeepCutAuto
import Derived.Deep.RegionHeld3
namespace Go.Proofs.Ytdjbalaicfienaa
open Go.RowKit
set_option linter.unusedVariables false
set_option linter.unusedSimpArgs false
def scaleS (amp : Int) (s : Smp) : Smp := ⟨amp * s.i, amp * s.q⟩
def encTo (amp : Int) (k : Nat) : List Smp := (preS.take k).map (scaleS amp)
def encS (bs : List Bool) (amp : Int) : List Smp := encTo amp 8 ++ (pairsTo (numBits bs.length 12) amp 6 ++ pairsTo bs amp ((bs.length + 1) / 2))
def encRes (x : RB) (amp : Int) : List Smp × Int := cond (chk x.n x.l) (if 1 ≤ amp ∧ amp ≤ 65536 then (if x.n ≤ 4095 then (encS x.bits amp, 0) else ([], 3)) else ([], 30)) ([], 10)
theorem encRes_no (x : RB) (amp : Int) (h : chk x.n x.l = false) : encRes x amp = ([], 10) := by unfold encRes; rw [h]; rfl
theorem encRes_amp (x : RB) (amp : Int) (h : chk x.n x.l = true) (h2 : ¬ (1 ≤ amp ∧ amp ≤ 65536)) : encRes x amp = ([], 30) := by unfold encRes; rw [h, if_neg h2]; rfl
theorem encRes_long (x : RB) (amp : Int) (h : chk x.n x.l = true) (h2 : 1 ≤ amp ∧ amp ≤ 65536) (h3 : ¬ x.n ≤ 4095) : encRes x amp = ([], 3) := by unfold encRes; rw [h, if_pos h2, if_neg h3]; rfl
theorem encRes_yes (x : RB) (amp : Int) (h : chk x.n x.l = true) (h2 : 1 ≤ amp ∧ amp ≤ 65536) (h3 : x.n ≤ 4095) : encRes x amp = (encS x.bits amp, 0) := by unfold encRes; rw [h, if_pos h2, if_pos h3]; rfl
theorem put_zero12 (n : Nat) (w : World) (h : n ≤ 4095) : Calls Try.prog 62 #[.agg #[.int .i64 0, .slice none 0 0], .int .u64 n, .int .i64 12] w fun e w' => Res w w' e (numBits n 12, 0) := by
  have h1 := put_any RB.zero n 12 w (RB.zero_is w).isIn (by omega)
  rw [putRes_is (RB.zero_is w), if_pos (by simp only [putArg, Bool.and_eq_true, decide_eq_true_eq]; exact ⟨by decide, by decide, by show n < 2 ^ 12; omega⟩)] at h1
  have e : ofRes ([] ++ numBits n (12 : Int).toNat) = (numBits n 12, 0) := by
    unfold ofRes
    rw [List.nil_append, if_pos (by rw [numBits_len]; decide)]
    rfl
  rw [e] at h1
  exact h1
theorem make_own (A : Int) (C : Nat) (h : A = C) (hC : C ≤ 100000) : ∃ Z : Array Value, (∀ w : World, (Instr.makeSlice 52 (.int .i64 0) (.int .i64 A)).run Try.prog w = .ok (.slice (some ⟨w.heap.size, 0, none⟩) 0 C) (w.alloc (.cells Z 63))) ∧ ∀ w : World, OwnP (w.alloc (.cells Z 63)) w.heap.size (.slice (some ⟨w.heap.size, 0, none⟩) 0 C) [] := by
  subst h
  obtain ⟨i, hi, hz0, hz1, hz2⟩ := info_parts infoSmp
  refine ⟨madeCells (Value.agg #[.int .i64 0, .int .i64 0]).cells (C * 2), fun w => ?_, fun w => ?_⟩
  · have hr := run_make (P := Try.prog) w 52 63 i _ Try.underlying52 hi hz0 .i64 .i64 0 C (Int.le_refl _) (by omega) (by rw [hz2]; omega) (by omega)
    rw [hz1] at hr
    simpa using hr
  · exact World.ownsRow_made w _ C (Nat.le_refl _) (by unfold maxLen; omega) (size_madeCells _ _)
set_option maxRecDepth 100000 in
set_option maxHeartbeats 4000000 in
theorem encode_bad (x : RB) (amp : Int) (w : World) (hx : x.In w) (hc : chk x.n x.l = false) : Calls Try.prog 37 #[x.val, .int .i64 amp] w fun e w' => SRes w w' e (encRes x amp) := by
  have HR := Lib.hid (encRes_no x amp hc)
  have HX := Lib.hid hx
  have HC := Lib.hid hc
  obtain ⟨n, a, len, cap, l⟩ := x
  clear hx hc
  show Calls Try.prog 37 #[.agg #[.int .i64 n, .slice a len cap], .int .i64 amp] w _
  go_enter Try.func37, Try.ntmps37
  go_wp2_with fail
  with_reducible refine (check_no ⟨n, a, len, cap, l⟩ _ (by exact HX.out.keeps ((Keeps.refl w).alloc _)) HC.out).mono ?_
  rintro e w1 ⟨rfl, hk1⟩
  go_wp2_with fail
  refine bodyPost_ret (v := .tuple #[.slice none 0 0, .int .i64 10]) (by simp [results, Try.results37, go_sem, *]) rfl (SRes.no HR.out ⟨rfl, hk1.unbox⟩)
set_option maxRecDepth 100000 in
set_option maxHeartbeats 4000000 in
theorem encode_amp (x : RB) (amp : Int) (w : World) (hx : x.In w) (hc : chk x.n x.l = true) (h2 : ¬ (1 ≤ amp ∧ amp ≤ 65536)) : Calls Try.prog 37 #[x.val, .int .i64 amp] w fun e w' => SRes w w' e (encRes x amp) := by
  have HR := Lib.hid (encRes_amp x amp hc h2)
  have HX := Lib.hid hx
  have HC := Lib.hid hc
  obtain ⟨n, a, len, cap, l⟩ := x
  clear hx hc
  show Calls Try.prog 37 #[.agg #[.int .i64 n, .slice a len cap], .int .i64 amp] w _
  have hd : decide (amp < 1) = true ∨ (decide (amp < 1) = false ∧ decide (65536 < amp) = true) := by
    by_cases h : amp < 1
    · left; simpa using h
    · right; exact ⟨by simpa using h, by simp; omega⟩
  clear h2
  rcases hd with d1 | ⟨d1, d2⟩
  all_goals
    go_enter Try.func37, Try.ntmps37
    go_wp2_with fail
    with_reducible refine (check_yes ⟨n, a, len, cap, l⟩ _ (by exact HX.out.keeps ((Keeps.refl w).alloc _)) HC.out).mono ?_
    rintro e w1 ⟨rfl, hk1⟩
    go_wp2_with fail
    refine bodyPost_ret (v := .tuple #[.slice none 0 0, .int .i64 30]) (by simp [results, Try.results37, go_sem, *]) rfl (SRes.no HR.out ⟨rfl, hk1.unbox⟩)
set_option maxRecDepth 100000 in
set_option maxHeartbeats 4000000 in
theorem encode_long (x : RB) (amp : Int) (w : World) (hx : x.In w) (hc : chk x.n x.l = true) (h2 : 1 ≤ amp ∧ amp ≤ 65536) (h3 : ¬ x.n ≤ 4095) : Calls Try.prog 37 #[x.val, .int .i64 amp] w fun e w' => SRes w w' e (encRes x amp) := by
  have HR := Lib.hid (encRes_long x amp hc h2 h3)
  have HX := Lib.hid hx
  have HC := Lib.hid hc
  obtain ⟨n, a, len, cap, l⟩ := x
  clear hx hc
  simp only at h3
  show Calls Try.prog 37 #[.agg #[.int .i64 n, .slice a len cap], .int .i64 amp] w _
  have d1 : decide (amp < 1) = false := by simp; omega
  have d2 : decide (65536 < amp) = false := by simp; omega
  have d3 : decide (4095 < n) = true := by simp; omega
  clear h2 h3
  go_enter Try.func37, Try.ntmps37
  go_wp2_with fail
  with_reducible refine (check_yes ⟨n, a, len, cap, l⟩ _ (by exact HX.out.keeps ((Keeps.refl w).alloc _)) HC.out).mono ?_
  rintro e w1 ⟨rfl, hk1⟩
  have hb := (Box.new w 26 #[.int .i64 n, .slice a len cap]).keeps hk1
  have b0 := hb.cell 0 _ rfl
  go_wp2_with fail
  refine bodyPost_ret (v := .tuple #[.slice none 0 0, .int .i64 3]) (by simp [results, Try.results37, go_sem, *]) rfl (SRes.no HR.out ⟨rfl, hk1.unbox⟩)
set_option maxRecDepth 100000 in
set_option maxHeartbeats 8000000 in
theorem encode_ok (x : RB) (bs : List Bool) (amp : Int) (w : World) (hx : x.Is w bs) (h2 : 1 ≤ amp ∧ amp ≤ 65536) (h3 : bs.length ≤ 4095) : Calls Try.prog 37 #[x.val, .int .i64 amp] w fun e w' => SRes w w' e (encS bs amp, 0) := by
  have HX := Lib.hid hx
  have HC := Lib.hid hx.chk
  obtain ⟨a, cap, rfl⟩ := hx.shape
  clear hx
  obtain ⟨n, hn⟩ : ∃ n, n = bs.length := ⟨_, rfl⟩
  have HN := Lib.hid hn
  rw [← hn] at HX HC h3 ⊢
  clear hn
  show Calls Try.prog 37 #[.agg #[.int .i64 n, .slice a ((n + 7) / 8) cap], .int .i64 amp] w _
  have d1 : decide (amp < 1) = false := by simp; omega
  have d2 : decide (65536 < amp) = false := by simp; omega
  have d3 : decide (4095 < (n : Int)) = false := by simp; omega
  have HFA : Hid (FInt (floatOfInt .f64 amp) amp) := Lib.hid (FInt.ofInt amp (by omega))
  have ham : amp.natAbs ≤ 65536 := by omega
  clear h2
  obtain ⟨C, hC⟩ : ∃ C : Nat, airN (n : Int) = C := ⟨14 + (n + 1) / 2, by unfold airN; rw [if_neg (by omega)]; omega⟩
  have hC2 : C ≤ 100000 := by
    unfold airN at hC
    rw [if_neg (by omega)] at hC
    omega
  obtain ⟨Z, hmk, hmo⟩ := make_own (airN (n : Int)) C hC hC2
  have HMO := Lib.hid hmo
  clear hmo hC hC2
  have hwn : IntKind.u64.wrap (n : Int) = n := by simp [IntKind.wrap, IntKind.bits, IntKind.signed]; omega
  go_enter Try.func37, Try.ntmps37
  go_wp2_with fail
  with_reducible refine (check_yes ⟨n, a, (n + 7) / 8, cap, pack bs⟩ _ (by exact HX.out.isIn.keeps ((Keeps.refl w).alloc _)) HC.out).mono ?_
  rintro e w1 ⟨rfl, hk1⟩
  have HB := Lib.hid ((Box.new w 26 #[.int .i64 n, .slice a ((n + 7) / 8) cap]).keeps hk1)
  have HK := Lib.hid hk1.unbox
  clear hk1
  have b0 := HB.out.cell 0 _ rfl
  have b1 := HB.out.cell 1 _ rfl
  have bl := HB.out.lt
  go_wp2_with fail
  with_reducible refine (air_any (n : Int) _).mono ?_
  rintro e w2 ⟨rfl, rfl⟩
  go_wp2_with fail
  with_reducible refine (preamble_any _).mono ?_
  rintro e w3 ⟨rfl, hk3⟩
  have HO := Lib.hid (((HMO.out w2).mono (show w.heap.size ≤ w2.heap.size from Nat.le_of_lt bl)).keeps hk3)
  replace HB := Lib.hid ((HB.out.next (.cells Z 63)).keeps hk3)
  replace HK := Lib.hid ((HK.out.alloc (.cells Z 63)).trans hk3)
  clear hk3 b0 b1 bl hmk HMO
  go_wp2_with fail
  go_loopw [7, 35] (fun v i wr => ∃ k : Nat, k ≤ 8 ∧ i = .int .i64 k ∧ Hid (OwnP wr w.heap.size v (encTo amp k)) ∧ Hid (Box wr w.heap.size 26 #[.int .i64 n, .slice a ((n + 7) / 8) cap]) ∧ Hid (Keeps w wr)) (fun _ i _ => 8 - (intOf i).toNat)
  case atStart => exact ⟨0, by omega, rfl, HO, HB, HK⟩
  case round =>
    clear HK HO HB
    obtain ⟨k, hk, rfl, HO, HB, HK⟩ := hrel
    have hsz := HK.out.size
    have b0 := HB.out.cell 0 _ rfl
    have b1 := HB.out.cell 1 _ rfl
    have bl := HB.out.lt
    have hks : k = 0 ∨ k = 1 ∨ k = 2 ∨ k = 3 ∨ k = 4 ∨ k = 5 ∨ k = 6 ∨ k = 7 ∨ k = 8 := by omega
    rcases hks with rfl | rfl | rfl | rfl | rfl | rfl | rfl | rfl | rfl
    · have hix : ∀ w : World, (Instr.index 97 (.agg #[.complex .f64 4607182418800017408 4607182418800017408, .complex .f64 4607182418800017408 4607182418800017408, .complex .f64 13830554455654793216 13830554455654793216, .complex .f64 4607182418800017408 13830554455654793216, .complex .f64 13830554455654793216 4607182418800017408, .complex .f64 4607182418800017408 4607182418800017408, .complex .f64 13830554455654793216 4607182418800017408, .complex .f64 4607182418800017408 13830554455654793216]) (.int .i64 0)).run Try.prog w = .ok (.complex .f64 4607182418800017408 4607182418800017408) w := fun w => by kernel_rfl
      obtain ⟨re, im, k1, k2, e1⟩ := cmul_int HFA.out FInt.zero FInt.one FInt.one 65536 1 ham (by decide) (by decide) (by decide) (by decide)
      have e2 := e1 Try.prog 95
      have K1 : Hid (FInt re (amp)) := Lib.hid (by simpa using k1)
      have K2 : Hid (FInt im (amp)) := Lib.hid (by simpa using k2)
      clear k1 k2 e1 b0 b1 bl
      go_wp2_with fail
      with_reducible refine (sample_any re im ⟨amp, amp⟩ _ K1.out K2.out (by simp only; omega) (by simp only; omega)).mono ?_
      rintro e w2 ⟨rfl, hk2⟩
      have hsz2 := hk2.size
      have HB2 := Lib.hid ((HB.out.keeps hk2).next (.cells #[.int .i64 amp, .int .i64 amp] 63))
      have HO2 := Lib.hid ((HO.out.keeps hk2).keeps ((Keeps.refl _).alloc (.cells #[.int .i64 amp, .int .i64 amp] 63)))
      clear e2 K1 K2
      go_wp2_with (refine wpList_joinP rfl _ _ rfl w.heap.size _ _ rfl (by exact HO2.out) _ 1 1 [⟨amp, amp⟩] rfl (by exact Box.smp (s := ⟨amp, amp⟩) (Box.new _ _ _)) (by show 0 + 1 ≤ _; omega) (by simp; omega) ?hmain)
      case hmain =>
        intro v' w3 hown hg
        have HO3 : Hid (OwnP w3 w.heap.size v' (encTo amp (0 + 1))) := Lib.hid (by
          have e : encTo amp 0 ++ [⟨amp, amp⟩] = encTo amp (0 + 1) := by simp [encTo, preS, scaleS]
          rw [← e]; exact hown)
        have HB3 := Lib.hid (HB2.out.gr hg (HO2.out.notBox HB2.out (by decide)))
        have HK3 : Hid (Keeps w w3) := Lib.hid (hg.keeps ((HK.out.trans hk2).alloc _) (fun k hk => (HO.out.lt k hk).1))
        clear hown hg hk2 HO HK HB HB2 HO2
        have b0 := HB3.out.cell 0 _ rfl
        go_wp2_with fail
        go_roundw
        case rel => exact ⟨1, by omega, by go_num, HO3, HB3, HK3⟩
        case measure => simp [intOf]
    · have hix : ∀ w : World, (Instr.index 97 (.agg #[.complex .f64 4607182418800017408 4607182418800017408, .complex .f64 4607182418800017408 4607182418800017408, .complex .f64 13830554455654793216 13830554455654793216, .complex .f64 4607182418800017408 13830554455654793216, .complex .f64 13830554455654793216 4607182418800017408, .complex .f64 4607182418800017408 4607182418800017408, .complex .f64 13830554455654793216 4607182418800017408, .complex .f64 4607182418800017408 13830554455654793216]) (.int .i64 1)).run Try.prog w = .ok (.complex .f64 4607182418800017408 4607182418800017408) w := fun w => by kernel_rfl
      obtain ⟨re, im, k1, k2, e1⟩ := cmul_int HFA.out FInt.zero FInt.one FInt.one 65536 1 ham (by decide) (by decide) (by decide) (by decide)
      have e2 := e1 Try.prog 95
      have K1 : Hid (FInt re (amp)) := Lib.hid (by simpa using k1)
      have K2 : Hid (FInt im (amp)) := Lib.hid (by simpa using k2)
      clear k1 k2 e1 b0 b1 bl
      go_wp2_with fail
      with_reducible refine (sample_any re im ⟨amp, amp⟩ _ K1.out K2.out (by simp only; omega) (by simp only; omega)).mono ?_
      rintro e w2 ⟨rfl, hk2⟩
      have hsz2 := hk2.size
      have HB2 := Lib.hid ((HB.out.keeps hk2).next (.cells #[.int .i64 amp, .int .i64 amp] 63))
      have HO2 := Lib.hid ((HO.out.keeps hk2).keeps ((Keeps.refl _).alloc (.cells #[.int .i64 amp, .int .i64 amp] 63)))
      clear e2 K1 K2
      go_wp2_with (refine wpList_joinP rfl _ _ rfl w.heap.size _ _ rfl (by exact HO2.out) _ 1 1 [⟨amp, amp⟩] rfl (by exact Box.smp (s := ⟨amp, amp⟩) (Box.new _ _ _)) (by show 1 + 1 ≤ _; omega) (by simp; omega) ?hmain)
      case hmain =>
        intro v' w3 hown hg
        have HO3 : Hid (OwnP w3 w.heap.size v' (encTo amp (1 + 1))) := Lib.hid (by
          have e : encTo amp 1 ++ [⟨amp, amp⟩] = encTo amp (1 + 1) := by simp [encTo, preS, scaleS]
          rw [← e]; exact hown)
        have HB3 := Lib.hid (HB2.out.gr hg (HO2.out.notBox HB2.out (by decide)))
        have HK3 : Hid (Keeps w w3) := Lib.hid (hg.keeps ((HK.out.trans hk2).alloc _) (fun k hk => (HO.out.lt k hk).1))
        clear hown hg hk2 HO HK HB HB2 HO2
        have b0 := HB3.out.cell 0 _ rfl
        go_wp2_with fail
        go_roundw
        case rel => exact ⟨2, by omega, by go_num, HO3, HB3, HK3⟩
        case measure => simp [intOf]
    · have hix : ∀ w : World, (Instr.index 97 (.agg #[.complex .f64 4607182418800017408 4607182418800017408, .complex .f64 4607182418800017408 4607182418800017408, .complex .f64 13830554455654793216 13830554455654793216, .complex .f64 4607182418800017408 13830554455654793216, .complex .f64 13830554455654793216 4607182418800017408, .complex .f64 4607182418800017408 4607182418800017408, .complex .f64 13830554455654793216 4607182418800017408, .complex .f64 4607182418800017408 13830554455654793216]) (.int .i64 2)).run Try.prog w = .ok (.complex .f64 13830554455654793216 13830554455654793216) w := fun w => by kernel_rfl
      obtain ⟨re, im, k1, k2, e1⟩ := cmul_int HFA.out FInt.zero FInt.mone FInt.mone 65536 1 ham (by decide) (by decide) (by decide) (by decide)
      have e2 := e1 Try.prog 95
      have K1 : Hid (FInt re (-amp)) := Lib.hid (by simpa using k1)
      have K2 : Hid (FInt im (-amp)) := Lib.hid (by simpa using k2)
      clear k1 k2 e1 b0 b1 bl
      go_wp2_with fail
      with_reducible refine (sample_any re im ⟨-amp, -amp⟩ _ K1.out K2.out (by simp only; omega) (by simp only; omega)).mono ?_
      rintro e w2 ⟨rfl, hk2⟩
      have hsz2 := hk2.size
      have HB2 := Lib.hid ((HB.out.keeps hk2).next (.cells #[.int .i64 (-amp), .int .i64 (-amp)] 63))
      have HO2 := Lib.hid ((HO.out.keeps hk2).keeps ((Keeps.refl _).alloc (.cells #[.int .i64 (-amp), .int .i64 (-amp)] 63)))
      clear e2 K1 K2
      go_wp2_with (refine wpList_joinP rfl _ _ rfl w.heap.size _ _ rfl (by exact HO2.out) _ 1 1 [⟨-amp, -amp⟩] rfl (by exact Box.smp (s := ⟨-amp, -amp⟩) (Box.new _ _ _)) (by show 2 + 1 ≤ _; omega) (by simp; omega) ?hmain)
      case hmain =>
        intro v' w3 hown hg
        have HO3 : Hid (OwnP w3 w.heap.size v' (encTo amp (2 + 1))) := Lib.hid (by
          have e : encTo amp 2 ++ [⟨-amp, -amp⟩] = encTo amp (2 + 1) := by simp [encTo, preS, scaleS]
          rw [← e]; exact hown)
        have HB3 := Lib.hid (HB2.out.gr hg (HO2.out.notBox HB2.out (by decide)))
        have HK3 : Hid (Keeps w w3) := Lib.hid (hg.keeps ((HK.out.trans hk2).alloc _) (fun k hk => (HO.out.lt k hk).1))
        clear hown hg hk2 HO HK HB HB2 HO2
        have b0 := HB3.out.cell 0 _ rfl
        go_wp2_with fail
        go_roundw
        case rel => exact ⟨3, by omega, by go_num, HO3, HB3, HK3⟩
        case measure => simp [intOf]
    · have hix : ∀ w : World, (Instr.index 97 (.agg #[.complex .f64 4607182418800017408 4607182418800017408, .complex .f64 4607182418800017408 4607182418800017408, .complex .f64 13830554455654793216 13830554455654793216, .complex .f64 4607182418800017408 13830554455654793216, .complex .f64 13830554455654793216 4607182418800017408, .complex .f64 4607182418800017408 4607182418800017408, .complex .f64 13830554455654793216 4607182418800017408, .complex .f64 4607182418800017408 13830554455654793216]) (.int .i64 3)).run Try.prog w = .ok (.complex .f64 4607182418800017408 13830554455654793216) w := fun w => by kernel_rfl
      obtain ⟨re, im, k1, k2, e1⟩ := cmul_int HFA.out FInt.zero FInt.one FInt.mone 65536 1 ham (by decide) (by decide) (by decide) (by decide)
      have e2 := e1 Try.prog 95
      have K1 : Hid (FInt re (amp)) := Lib.hid (by simpa using k1)
      have K2 : Hid (FInt im (-amp)) := Lib.hid (by simpa using k2)
      clear k1 k2 e1 b0 b1 bl
      go_wp2_with fail
      with_reducible refine (sample_any re im ⟨amp, -amp⟩ _ K1.out K2.out (by simp only; omega) (by simp only; omega)).mono ?_
      rintro e w2 ⟨rfl, hk2⟩
      have hsz2 := hk2.size
      have HB2 := Lib.hid ((HB.out.keeps hk2).next (.cells #[.int .i64 amp, .int .i64 (-amp)] 63))
      have HO2 := Lib.hid ((HO.out.keeps hk2).keeps ((Keeps.refl _).alloc (.cells #[.int .i64 amp, .int .i64 (-amp)] 63)))
      clear e2 K1 K2
      go_wp2_with (refine wpList_joinP rfl _ _ rfl w.heap.size _ _ rfl (by exact HO2.out) _ 1 1 [⟨amp, -amp⟩] rfl (by exact Box.smp (s := ⟨amp, -amp⟩) (Box.new _ _ _)) (by show 3 + 1 ≤ _; omega) (by simp; omega) ?hmain)
      case hmain =>
        intro v' w3 hown hg
        have HO3 : Hid (OwnP w3 w.heap.size v' (encTo amp (3 + 1))) := Lib.hid (by
          have e : encTo amp 3 ++ [⟨amp, -amp⟩] = encTo amp (3 + 1) := by simp [encTo, preS, scaleS]
          rw [← e]; exact hown)
        have HB3 := Lib.hid (HB2.out.gr hg (HO2.out.notBox HB2.out (by decide)))
        have HK3 : Hid (Keeps w w3) := Lib.hid (hg.keeps ((HK.out.trans hk2).alloc _) (fun k hk => (HO.out.lt k hk).1))
        clear hown hg hk2 HO HK HB HB2 HO2
        have b0 := HB3.out.cell 0 _ rfl
        go_wp2_with fail
        go_roundw
        case rel => exact ⟨4, by omega, by go_num, HO3, HB3, HK3⟩
        case measure => simp [intOf]
    · have hix : ∀ w : World, (Instr.index 97 (.agg #[.complex .f64 4607182418800017408 4607182418800017408, .complex .f64 4607182418800017408 4607182418800017408, .complex .f64 13830554455654793216 13830554455654793216, .complex .f64 4607182418800017408 13830554455654793216, .complex .f64 13830554455654793216 4607182418800017408, .complex .f64 4607182418800017408 4607182418800017408, .complex .f64 13830554455654793216 4607182418800017408, .complex .f64 4607182418800017408 13830554455654793216]) (.int .i64 4)).run Try.prog w = .ok (.complex .f64 13830554455654793216 4607182418800017408) w := fun w => by kernel_rfl
      obtain ⟨re, im, k1, k2, e1⟩ := cmul_int HFA.out FInt.zero FInt.mone FInt.one 65536 1 ham (by decide) (by decide) (by decide) (by decide)
      have e2 := e1 Try.prog 95
      have K1 : Hid (FInt re (-amp)) := Lib.hid (by simpa using k1)
      have K2 : Hid (FInt im (amp)) := Lib.hid (by simpa using k2)
      clear k1 k2 e1 b0 b1 bl
      go_wp2_with fail
      with_reducible refine (sample_any re im ⟨-amp, amp⟩ _ K1.out K2.out (by simp only; omega) (by simp only; omega)).mono ?_
      rintro e w2 ⟨rfl, hk2⟩
      have hsz2 := hk2.size
      have HB2 := Lib.hid ((HB.out.keeps hk2).next (.cells #[.int .i64 (-amp), .int .i64 amp] 63))
      have HO2 := Lib.hid ((HO.out.keeps hk2).keeps ((Keeps.refl _).alloc (.cells #[.int .i64 (-amp), .int .i64 amp] 63)))
      clear e2 K1 K2
      go_wp2_with (refine wpList_joinP rfl _ _ rfl w.heap.size _ _ rfl (by exact HO2.out) _ 1 1 [⟨-amp, amp⟩] rfl (by exact Box.smp (s := ⟨-amp, amp⟩) (Box.new _ _ _)) (by show 4 + 1 ≤ _; omega) (by simp; omega) ?hmain)
      case hmain =>
        intro v' w3 hown hg
        have HO3 : Hid (OwnP w3 w.heap.size v' (encTo amp (4 + 1))) := Lib.hid (by
          have e : encTo amp 4 ++ [⟨-amp, amp⟩] = encTo amp (4 + 1) := by simp [encTo, preS, scaleS]
          rw [← e]; exact hown)
        have HB3 := Lib.hid (HB2.out.gr hg (HO2.out.notBox HB2.out (by decide)))
        have HK3 : Hid (Keeps w w3) := Lib.hid (hg.keeps ((HK.out.trans hk2).alloc _) (fun k hk => (HO.out.lt k hk).1))
        clear hown hg hk2 HO HK HB HB2 HO2
        have b0 := HB3.out.cell 0 _ rfl
        go_wp2_with fail
        go_roundw
        case rel => exact ⟨5, by omega, by go_num, HO3, HB3, HK3⟩
        case measure => simp [intOf]
    · have hix : ∀ w : World, (Instr.index 97 (.agg #[.complex .f64 4607182418800017408 4607182418800017408, .complex .f64 4607182418800017408 4607182418800017408, .complex .f64 13830554455654793216 13830554455654793216, .complex .f64 4607182418800017408 13830554455654793216, .complex .f64 13830554455654793216 4607182418800017408, .complex .f64 4607182418800017408 4607182418800017408, .complex .f64 13830554455654793216 4607182418800017408, .complex .f64 4607182418800017408 13830554455654793216]) (.int .i64 5)).run Try.prog w = .ok (.complex .f64 4607182418800017408 4607182418800017408) w := fun w => by kernel_rfl
      obtain ⟨re, im, k1, k2, e1⟩ := cmul_int HFA.out FInt.zero FInt.one FInt.one 65536 1 ham (by decide) (by decide) (by decide) (by decide)
      have e2 := e1 Try.prog 95
      have K1 : Hid (FInt re (amp)) := Lib.hid (by simpa using k1)
      have K2 : Hid (FInt im (amp)) := Lib.hid (by simpa using k2)
      clear k1 k2 e1 b0 b1 bl
      go_wp2_with fail
      with_reducible refine (sample_any re im ⟨amp, amp⟩ _ K1.out K2.out (by simp only; omega) (by simp only; omega)).mono ?_
      rintro e w2 ⟨rfl, hk2⟩
      have hsz2 := hk2.size
      have HB2 := Lib.hid ((HB.out.keeps hk2).next (.cells #[.int .i64 amp, .int .i64 amp] 63))
      have HO2 := Lib.hid ((HO.out.keeps hk2).keeps ((Keeps.refl _).alloc (.cells #[.int .i64 amp, .int .i64 amp] 63)))
      clear e2 K1 K2
      go_wp2_with (refine wpList_joinP rfl _ _ rfl w.heap.size _ _ rfl (by exact HO2.out) _ 1 1 [⟨amp, amp⟩] rfl (by exact Box.smp (s := ⟨amp, amp⟩) (Box.new _ _ _)) (by show 5 + 1 ≤ _; omega) (by simp; omega) ?hmain)
      case hmain =>
        intro v' w3 hown hg
        have HO3 : Hid (OwnP w3 w.heap.size v' (encTo amp (5 + 1))) := Lib.hid (by
          have e : encTo amp 5 ++ [⟨amp, amp⟩] = encTo amp (5 + 1) := by simp [encTo, preS, scaleS]
          rw [← e]; exact hown)
        have HB3 := Lib.hid (HB2.out.gr hg (HO2.out.notBox HB2.out (by decide)))
        have HK3 : Hid (Keeps w w3) := Lib.hid (hg.keeps ((HK.out.trans hk2).alloc _) (fun k hk => (HO.out.lt k hk).1))
        clear hown hg hk2 HO HK HB HB2 HO2
        have b0 := HB3.out.cell 0 _ rfl
        go_wp2_with fail
        go_roundw
        case rel => exact ⟨6, by omega, by go_num, HO3, HB3, HK3⟩
        case measure => simp [intOf]
    · have hix : ∀ w : World, (Instr.index 97 (.agg #[.complex .f64 4607182418800017408 4607182418800017408, .complex .f64 4607182418800017408 4607182418800017408, .complex .f64 13830554455654793216 13830554455654793216, .complex .f64 4607182418800017408 13830554455654793216, .complex .f64 13830554455654793216 4607182418800017408, .complex .f64 4607182418800017408 4607182418800017408, .complex .f64 13830554455654793216 4607182418800017408, .complex .f64 4607182418800017408 13830554455654793216]) (.int .i64 6)).run Try.prog w = .ok (.complex .f64 13830554455654793216 4607182418800017408) w := fun w => by kernel_rfl
      obtain ⟨re, im, k1, k2, e1⟩ := cmul_int HFA.out FInt.zero FInt.mone FInt.one 65536 1 ham (by decide) (by decide) (by decide) (by decide)
      have e2 := e1 Try.prog 95
      have K1 : Hid (FInt re (-amp)) := Lib.hid (by simpa using k1)
      have K2 : Hid (FInt im (amp)) := Lib.hid (by simpa using k2)
      clear k1 k2 e1 b0 b1 bl
      go_wp2_with fail
      with_reducible refine (sample_any re im ⟨-amp, amp⟩ _ K1.out K2.out (by simp only; omega) (by simp only; omega)).mono ?_
      rintro e w2 ⟨rfl, hk2⟩
      have hsz2 := hk2.size
      have HB2 := Lib.hid ((HB.out.keeps hk2).next (.cells #[.int .i64 (-amp), .int .i64 amp] 63))
      have HO2 := Lib.hid ((HO.out.keeps hk2).keeps ((Keeps.refl _).alloc (.cells #[.int .i64 (-amp), .int .i64 amp] 63)))
      clear e2 K1 K2
      go_wp2_with (refine wpList_joinP rfl _ _ rfl w.heap.size _ _ rfl (by exact HO2.out) _ 1 1 [⟨-amp, amp⟩] rfl (by exact Box.smp (s := ⟨-amp, amp⟩) (Box.new _ _ _)) (by show 6 + 1 ≤ _; omega) (by simp; omega) ?hmain)
      case hmain =>
        intro v' w3 hown hg
        have HO3 : Hid (OwnP w3 w.heap.size v' (encTo amp (6 + 1))) := Lib.hid (by
          have e : encTo amp 6 ++ [⟨-amp, amp⟩] = encTo amp (6 + 1) := by simp [encTo, preS, scaleS]
          rw [← e]; exact hown)
        have HB3 := Lib.hid (HB2.out.gr hg (HO2.out.notBox HB2.out (by decide)))
        have HK3 : Hid (Keeps w w3) := Lib.hid (hg.keeps ((HK.out.trans hk2).alloc _) (fun k hk => (HO.out.lt k hk).1))
        clear hown hg hk2 HO HK HB HB2 HO2
        have b0 := HB3.out.cell 0 _ rfl
        go_wp2_with fail
        go_roundw
        case rel => exact ⟨7, by omega, by go_num, HO3, HB3, HK3⟩
        case measure => simp [intOf]
    · have hix : ∀ w : World, (Instr.index 97 (.agg #[.complex .f64 4607182418800017408 4607182418800017408, .complex .f64 4607182418800017408 4607182418800017408, .complex .f64 13830554455654793216 13830554455654793216, .complex .f64 4607182418800017408 13830554455654793216, .complex .f64 13830554455654793216 4607182418800017408, .complex .f64 4607182418800017408 4607182418800017408, .complex .f64 13830554455654793216 4607182418800017408, .complex .f64 4607182418800017408 13830554455654793216]) (.int .i64 7)).run Try.prog w = .ok (.complex .f64 4607182418800017408 13830554455654793216) w := fun w => by kernel_rfl
      obtain ⟨re, im, k1, k2, e1⟩ := cmul_int HFA.out FInt.zero FInt.one FInt.mone 65536 1 ham (by decide) (by decide) (by decide) (by decide)
      have e2 := e1 Try.prog 95
      have K1 : Hid (FInt re (amp)) := Lib.hid (by simpa using k1)
      have K2 : Hid (FInt im (-amp)) := Lib.hid (by simpa using k2)
      clear k1 k2 e1 b0 b1 bl
      go_wp2_with fail
      with_reducible refine (sample_any re im ⟨amp, -amp⟩ _ K1.out K2.out (by simp only; omega) (by simp only; omega)).mono ?_
      rintro e w2 ⟨rfl, hk2⟩
      have hsz2 := hk2.size
      have HB2 := Lib.hid ((HB.out.keeps hk2).next (.cells #[.int .i64 amp, .int .i64 (-amp)] 63))
      have HO2 := Lib.hid ((HO.out.keeps hk2).keeps ((Keeps.refl _).alloc (.cells #[.int .i64 amp, .int .i64 (-amp)] 63)))
      clear e2 K1 K2
      go_wp2_with (refine wpList_joinP rfl _ _ rfl w.heap.size _ _ rfl (by exact HO2.out) _ 1 1 [⟨amp, -amp⟩] rfl (by exact Box.smp (s := ⟨amp, -amp⟩) (Box.new _ _ _)) (by show 7 + 1 ≤ _; omega) (by simp; omega) ?hmain)
      case hmain =>
        intro v' w3 hown hg
        have HO3 : Hid (OwnP w3 w.heap.size v' (encTo amp (7 + 1))) := Lib.hid (by
          have e : encTo amp 7 ++ [⟨amp, -amp⟩] = encTo amp (7 + 1) := by simp [encTo, preS, scaleS]
          rw [← e]; exact hown)
        have HB3 := Lib.hid (HB2.out.gr hg (HO2.out.notBox HB2.out (by decide)))
        have HK3 : Hid (Keeps w w3) := Lib.hid (hg.keeps ((HK.out.trans hk2).alloc _) (fun k hk => (HO.out.lt k hk).1))
        clear hown hg hk2 HO HK HB HB2 HO2
        have b0 := HB3.out.cell 0 _ rfl
        go_wp2_with fail
        go_roundw
        case rel => exact ⟨8, by omega, by go_num, HO3, HB3, HK3⟩
        case measure => simp [intOf]
    · go_wp2_with fail
      with_reducible refine (put_zero12 n _ h3).mono ?_
      rintro e w4 ⟨y, rfl, hy, hf, hk4⟩
      obtain ⟨yn, ya, ylen, ycap, yl⟩ := y
      have HY := Lib.hid (hy.keeps ((Keeps.refl w4).alloc (.cells #[.int .i64 yn, .slice ya ylen ycap] 26)))
      have HFAR : Hid (∀ x, ya = some x → u7.ownBlock ≠ some x.block) := Lib.hid (fun x hx e => by
        have h1 := hf x hx
        have h2 := (HO.out.lt _ e).2
        omega)
      have HNB := Lib.hid (Box.new w4 26 #[.int .i64 yn, .slice ya ylen ycap])
      replace HO := Lib.hid ((HO.out.keeps hk4).keeps ((Keeps.refl w4).alloc (.cells #[.int .i64 yn, .slice ya ylen ycap] 26)))
      replace HB := Lib.hid ((HB.out.keeps hk4).next (.cells #[.int .i64 yn, .slice ya ylen ycap] 26))
      replace HK := Lib.hid ((HK.out.trans hk4).alloc (.cells #[.int .i64 yn, .slice ya ylen ycap] 26))
      have hsz4 := HK.out.size
      clear hy hf hk4 b0 b1 bl hsz
      go_upto_region 17 with fail
      obtain ⟨W, hW⟩ : ∃ W, W = w4.alloc (.cells #[.int .i64 yn, .slice ya ylen ycap] 26) := ⟨_, rfl⟩
      rw [← hW] at HY HNB HO HB HK hsz4 ⊢
      obtain ⟨N, hN⟩ : ∃ N, N = w4.heap.size := ⟨_, rfl⟩
      rw [← hN] at HNB ⊢
      clear hW hN
      have HXI : Hid (RB.Is ⟨n, a, (n + 7) / 8, cap, pack bs⟩ w bs) := HX
      have HNL := Lib.hid (show (numBits n 12).length = 12 from numBits_len _ _)
      obtain ⟨nb, hnb⟩ : ∃ nb, nb = numBits n 12 := ⟨_, rfl⟩
      have HNN := Lib.hid hnb
      rw [← hnb] at HY HNL
      clear hnb
      have HOd := Lib.hid (HO.out.keeps (Keeps.refl W).drew)
      have HBd := Lib.hid (HB.out.keeps (Keeps.refl W).drew)
      have HNd := Lib.hid (HNB.out.keeps (Keeps.refl W).drew)
      have HYd := Lib.hid (HY.out.keeps (Keeps.refl W).drew)
      have HKd := Lib.hid (HK.out.drew)
      have hszd : w.heap.size ≤ W.drew.heap.size := HKd.out.size
      have h8 : (encTo amp 8).length = 8 := rfl
      have HAE : Hid (encTo amp 8 ++ pairsTo nb amp ((nb.length + 1) / 2) ++ pairsTo bs amp ((bs.length + 1) / 2) = encS bs amp) := Lib.hid (by
        unfold encS
        rw [HNL.out, HNN.out, HN.out, List.append_assoc])
      have hpl : (encTo amp 8 ++ pairsTo nb amp ((nb.length + 1) / 2)).length ≤ 100000 := by rw [List.length_append, pairsTo_len, HNL.out, h8]; decide
      clear HO HB HNB HY HK HX hsz4
      go_region_held3 (fun w' => w'.cell? ⟨w.heap.size, 0, none⟩ = some (.int .i64 n) ∧ w'.cell? ⟨w.heap.size, 1, none⟩ = some (.slice a ((n + 7) / 8) cap) ∧ w'.cell? ⟨N, 0, none⟩ = some (.int .i64 yn) ∧ w'.cell? ⟨N, 1, none⟩ = some (.slice ya ylen ycap))
        ((first | exact ⟨HB2.out.cell 0 _ rfl, HB2.out.cell 1 _ rfl, HN2.out.cell 0 _ rfl, HN2.out.cell 1 _ rfl⟩ | exact ⟨HB1.out.cell 0 _ rfl, HB1.out.cell 1 _ rfl, HN1.out.cell 0 _ rfl, HN1.out.cell 1 _ rfl⟩ | exact ⟨HBd.out.cell 0 _ rfl, HBd.out.cell 1 _ rfl, HNd.out.cell 0 _ rfl, HNd.out.cell 1 _ rfl⟩))
        (first
          | (go_at_call 74; with_reducible refine (pairs_any u7 (encTo amp 8) w.heap.size ⟨yn, ya, ylen, ycap, yl⟩ nb _ _ amp W.drew HOd.out HYd.out (fun _ => HFAR.out) HFA.out FInt.zero ham (by rw [h8]; decide) hszd).mono ?_; rintro e u ⟨v1, rfl, hv1, hg1⟩; have HO1 := Lib.hid hv1; have HB1 := Lib.hid (HBd.out.gr hg1 (HOd.out.notBox HBd.out (by decide))); have HN1 := Lib.hid (HNd.out.gr hg1 (HOd.out.notBox HNd.out (by decide))); have HK1 : Hid (Keeps w u) := Lib.hid (hg1.keeps HKd.out (fun k hk => (HOd.out.lt k hk).1)); have hsz1 := HK1.out.size; clear hv1 hg1)
          | (go_at_call 74; with_reducible refine (pairs_any v1 (encTo amp 8 ++ pairsTo nb amp ((nb.length + 1) / 2)) w.heap.size ⟨n, a, (n + 7) / 8, cap, pack bs⟩ bs _ _ amp u HO1.out (HXI.out.keeps HK1.out) (fun h0 x hx e => by have h1 := (HO1.out.lt _ e).1; have h2 := HXI.out.isIn.row; obtain ⟨b', o', h3, -, h4⟩ := h2.addr h0; rw [h3] at hx; cases hx; simp only at h1; omega) HFA.out FInt.zero ham hpl hsz1).mono ?_; rintro e u2 ⟨v2, rfl, hv2, hg2⟩; have HO2 := Lib.hid hv2; have HB2 := Lib.hid (HB1.out.gr hg2 (HO1.out.notBox HB1.out (by decide))); have HN2 := Lib.hid (HN1.out.gr hg2 (HO1.out.notBox HN1.out (by decide))); have HK2 : Hid (Keeps w u2) := Lib.hid (hg2.keeps HK1.out (fun k hk => (HO1.out.lt k hk).1)); clear hv2 hg2))
      all_goals
        go_wp2_with fail
        refine bodyPost_ret (v := .tuple #[v2, .int .i64 0]) (by simp [results, Try.results37, go_sem, *]) rfl ⟨v2, rfl, ?_, HK2.out⟩
        rw [← HAE.out]
        exact HO2.out
theorem encode_any (x : RB) (amp : Int) (w : World) (hx : x.In w) : Calls Try.prog 37 #[x.val, .int .i64 amp] w fun e w' => SRes w w' e (encRes x amp) := by
  cases hc : chk x.n x.l
  · exact encode_bad x amp w hx hc
  by_cases h2 : 1 ≤ amp ∧ amp ≤ 65536
  · by_cases h3 : x.n ≤ 4095
    · rw [encRes_yes x amp hc h2 h3]
      have his : x.Is w x.bits := hx.is hc
      have hn := his.n
      exact encode_ok x x.bits amp w his h2 (by omega)
    · exact encode_long x amp w hx hc h2 h3
  · exact encode_amp x amp w hx hc h2
end Go.Proofs.Ytdjbalaicfienaa
