/- The walk of PhasorTurns. -/
import Derived.Test.YtdjbalaicfienaaP12
import Derived.Test.YtdjbalaicfienaaP9
namespace Go.Proofs.Ytdjbalaicfienaa
open Go.RowKit
set_option linter.unusedVariables false
set_option linter.unusedSimpArgs false
theorem turnRes_yes (xs : List Smp) (q : Int) (h : allB xs = true) : turnRes xs q = (xs.map fun s => turnS s (qOf q), 0) := by unfold turnRes; rw [h]; rfl
theorem turnRes_no (xs : List Smp) (q : Int) (h : allB xs = false) : turnRes xs q = ([], 31) := by unfold turnRes; rw [h]; rfl
theorem qOf_four : qOf 4 = 0 := by decide
set_option maxRecDepth 100000 in
set_option maxHeartbeats 4000000 in
theorem phasorTurns_any (a : Option Addr) (n cap : Nat) (xs : List Smp) (ja jb at_ : Int) (w : World) (hx : SRow w a n cap xs) (ha1 : -128 ≤ ja) (ha2 : ja ≤ 127) (hb1 : -128 ≤ jb) (hb2 : jb ≤ 127) (hat : -9223372036854775808 ≤ at_) :
    Calls Try.prog 8 #[.slice a n cap, .int .i8 ja, .int .i8 jb, .int .i64 at_] w fun e w' => e = .returned (.bool true) ∧ Keeps w w' := by
  have HX := Lib.hid hx
  have hlen := hx.len
  have hwa : IntKind.i64.wrap ja = ja := wrap_small (by omega)
  have hwb : IntKind.i64.wrap jb = jb := wrap_small (by omega)
  have hwc : IntKind.i64.wrap (ja + jb) = ja + jb := wrap_small (by omega)
  have hfew := fewB_iff [⟨a, cap, xs⟩]
  clear hx
  go_enter Try.func8, Try.ntmps8
  go_wp2_with fail
  with_reducible refine (begun3_any _).mono ?_
  rintro e w1 ⟨rfl, hk1⟩
  have HK := Lib.hid hk1
  clear hk1
  go_wp2_with fail
  with_reducible refine (few_any (some ⟨w1.heap.size, 0, none⟩) 1 1 [⟨a, cap, xs⟩] _ (by exact SRs.one (HX.out.keeps (HK.out.alloc _)) (Box.new _ _ _))).mono ?_
  rintro e w2 ⟨rfl, rfl⟩
  cases hf : fewB [⟨a, cap, xs⟩]
  · clear hf hfew
    go_wp2_with fail
    with_reducible refine (begun3_any _).mono ?_
    rintro e w3 ⟨rfl, hk3⟩
    go_wp2_with fail
    go_ret
    exact ⟨rfl, (HK.out.alloc _).trans hk3⟩
  have hn5 : n ≤ 5000 := by
    have := (hfew hf).2 _ (List.mem_singleton.2 rfl)
    simp only at this
    omega
  replace HK := Lib.hid (HK.out.alloc (.cells #[.slice a n cap] 52))
  obtain ⟨W, hW⟩ : ∃ W, W = w1.alloc (.cells #[.slice a n cap] 52) := ⟨_, rfl⟩
  rw [← hW] at HK ⊢
  clear hf hfew hW
  cases hall : allB xs
  · have HR := Lib.hid (turnRes_no xs ja hall)
    go_wp2_with fail
    with_reducible refine (turn_any a n cap xs ja _ (by exact HX.out.keeps HK.out) (by omega) (by omega) (by omega)).mono ?_
    rw [HR.out]
    rintro e w3 ⟨v3, rfl, -, hk3⟩
    clear hall
    go_wp2_with fail
    go_ret
    exact ⟨rfl, HK.out.trans hk3⟩
  have HA := Lib.hid hall
  have HR1 := Lib.hid (turnRes_yes xs ja hall)
  have HR2 := Lib.hid (turnRes_yes _ jb (allB_turn xs (qOf ja) hall))
  have HR3 := Lib.hid (turnRes_yes xs (ja + jb) hall)
  have HR4 := Lib.hid (turnRes_yes xs 4 hall)
  have HMT := Lib.hid (match_turn xs (qOf ja) at_ hall).1
  clear hall
  have HYZ : Hid (((xs.map fun s => turnS s (qOf ja)).map fun s => turnS s (qOf jb)) = xs.map fun s => turnS s (qOf (ja + jb))) := Lib.hid (by
    rw [List.map_map]
    apply List.map_congr_left
    intro s _
    exact turnS_add s ja jb)
  have HWX : Hid ((xs.map fun s => turnS s (qOf 4)) = xs) := Lib.hid (by
    rw [qOf_four]
    exact List.map_id' xs)
  rw [HYZ.out] at HR2
  rw [HWX.out] at HR4
  have hl1 : (xs.map fun s => turnS s (qOf ja)).length = n := by rw [List.length_map, hlen]
  have hl3 : (xs.map fun s => turnS s (qOf (ja + jb))).length = n := by rw [List.length_map, hlen]
  obtain ⟨X, hX⟩ : ∃ X, X = xs.map fun s => turnS s (qOf ja) := ⟨_, rfl⟩
  rw [← hX] at HR1 HR2 HMT hl1
  obtain ⟨Z, hZ⟩ : ∃ Z, Z = xs.map fun s => turnS s (qOf (ja + jb)) := ⟨_, rfl⟩
  rw [← hZ] at HR2 HR3 hl3
  clear HYZ HWX hX hZ HA
  go_wp2_with fail
  with_reducible refine (turn_any a n cap xs ja _ (by exact HX.out.keeps HK.out) (by omega) (by omega) (by omega)).mono ?_
  rw [HR1.out]
  rintro e w3 ⟨v3, rfl, ho3, hk3⟩
  obtain ⟨a3, c3, rfl, hr3, -⟩ := ho3.shape
  simp only at hr3
  rw [hl1] at hr3 ⊢
  have H3 := Lib.hid hr3
  replace HK := Lib.hid (HK.out.trans hk3)
  clear ho3 hr3 hk3
  go_wp2_with fail
  with_reducible refine (turn_any a3 n c3 X jb _ (by exact H3.out) (by omega) (by omega) (by omega)).mono ?_
  rw [HR2.out]
  rintro e w4 ⟨v4, rfl, ho4, hk4⟩
  obtain ⟨a4, c4, rfl, hr4, -⟩ := ho4.shape
  simp only at hr4
  rw [hl3] at hr4 ⊢
  have H4 := Lib.hid hr4
  replace H3 := Lib.hid (H3.out.keeps hk4)
  replace HK := Lib.hid (HK.out.trans hk4)
  clear ho4 hr4 hk4
  go_wp2_with fail
  with_reducible refine (turn_any a n cap xs (ja + jb) _ (by exact HX.out.keeps HK.out) (by omega) (by omega) (by omega)).mono ?_
  rw [HR3.out]
  rintro e w5 ⟨v5, rfl, ho5, hk5⟩
  obtain ⟨a5, c5, rfl, hr5, -⟩ := ho5.shape
  simp only at hr5
  rw [hl3] at hr5 ⊢
  have H5 := Lib.hid hr5
  replace H3 := Lib.hid (H3.out.keeps hk5)
  replace H4 := Lib.hid (H4.out.keeps hk5)
  replace HK := Lib.hid (HK.out.trans hk5)
  clear ho5 hr5 hk5
  go_wp2_with fail
  with_reducible refine (turn_any a n cap xs 4 _ (by exact HX.out.keeps HK.out) (by omega) (by omega) (by omega)).mono ?_
  rw [HR4.out]
  rintro e w6 ⟨v6, rfl, ho6, hk6⟩
  obtain ⟨a6, c6, rfl, hr6, -⟩ := ho6.shape
  simp only at hr6
  rw [hlen] at hr6 ⊢
  have H6 := Lib.hid hr6
  replace H3 := Lib.hid (H3.out.keeps hk6)
  replace H4 := Lib.hid (H4.out.keeps hk6)
  replace H5 := Lib.hid (H5.out.keeps hk6)
  replace HK := Lib.hid (HK.out.trans hk6)
  clear ho6 hr6 hk6
  go_wp2_with fail
  with_reducible refine (match_any a n cap xs at_ _ (by exact HX.out.keeps HK.out) (by omega) hat).mono ?_
  obtain ⟨⟨⟨pi, pq⟩, N, I⟩, hM⟩ : ∃ M, M = matchRes xs at_ := ⟨_, rfl⟩
  rw [← hM] at HMT ⊢
  clear hM
  rintro e w7 ⟨rfl, hk7⟩
  replace H3 := Lib.hid (H3.out.keeps hk7)
  replace H4 := Lib.hid (H4.out.keeps hk7)
  replace H5 := Lib.hid (H5.out.keeps hk7)
  replace H6 := Lib.hid (H6.out.keeps hk7)
  replace HK := Lib.hid (HK.out.trans hk7)
  clear hk7
  go_wp2_with fail
  have hkb := (Keeps.refl w7).alloc (.cells #[.int .i64 pi, .int .i64 pq] 63)
  replace H3 := Lib.hid (H3.out.keeps hkb)
  replace H4 := Lib.hid (H4.out.keeps hkb)
  replace H5 := Lib.hid (H5.out.keeps hkb)
  replace H6 := Lib.hid (H6.out.keeps hkb)
  replace HK := Lib.hid (HK.out.trans hkb)
  clear hkb
  with_reducible refine (match_any a3 n c3 X at_ _ (by exact H3.out) (by omega) hat).mono ?_
  obtain ⟨⟨⟨ri, rq⟩, N2, I2⟩, hM⟩ : ∃ M, M = matchRes X at_ := ⟨_, rfl⟩
  rw [← hM] at HMT ⊢
  clear hM
  have hni := HMT.out
  simp only [Prod.mk.injEq] at hni
  obtain ⟨rfl, rfl⟩ := hni
  rintro e w8 ⟨rfl, hk8⟩
  replace H4 := Lib.hid (H4.out.keeps hk8)
  replace H5 := Lib.hid (H5.out.keeps hk8)
  replace H6 := Lib.hid (H6.out.keeps hk8)
  replace HK := Lib.hid (HK.out.trans hk8)
  clear hk8 HMT H3
  go_wp2_with fail
  have hkb := (Keeps.refl w8).alloc (.cells #[.int .i64 ri, .int .i64 rq] 63)
  replace H4 := Lib.hid (H4.out.keeps hkb)
  replace H5 := Lib.hid (H5.out.keeps hkb)
  replace H6 := Lib.hid (H6.out.keeps hkb)
  replace HK := Lib.hid (HK.out.trans hkb)
  clear hkb
  with_reducible refine (same_yes3 a4 a5 n c4 c5 Z _ (by exact H4.out) (by exact H5.out)).mono ?_
  rintro e w9 ⟨rfl, hk9⟩
  replace H6 := Lib.hid (H6.out.keeps hk9)
  replace HK := Lib.hid (HK.out.trans hk9)
  clear hk9 H4 H5
  go_wp2_with fail
  with_reducible refine (same_yes3 a6 a n c6 cap xs _ (by exact H6.out) (by exact HX.out.keeps HK.out)).mono ?_
  rintro e w10 ⟨rfl, hk10⟩
  replace HK := Lib.hid (HK.out.trans hk10)
  clear hk10 H6
  go_wp2_with fail
  go_ret
  exact ⟨rfl, HK.out⟩
end Go.Proofs.Ytdjbalaicfienaa
