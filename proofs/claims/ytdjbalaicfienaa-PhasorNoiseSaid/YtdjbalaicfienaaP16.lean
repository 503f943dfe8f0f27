/- The walks of layer 3, 11: Find on both sides. -/
import Derived.Test.YtdjbalaicfienaaP14
import Derived.Test.YtdjbalaicfienaaP15
namespace Go.Proofs.Ytdjbalaicfienaa
open Go.RowKit
set_option linter.unusedVariables false
set_option linter.unusedSimpArgs false
/-- the first match from f on, within so many places -/
def findAt (xs : List Smp) : Nat → Nat → Option Nat
  | _, 0 => none
  | f, m + 1 => cond (matchRes xs f).2.2 (some f) (findAt xs (f + 1) m)
theorem findAt_yes (xs : List Smp) (k m : Nat) (h : 0 < m) : (matchRes xs k).2.2 = true → findAt xs k m = some k := by
  intro h1
  obtain ⟨m, rfl⟩ : ∃ j, m = j + 1 := ⟨m - 1, by omega⟩
  simp only [findAt]
  rw [h1]; rfl
theorem findAt_no (xs : List Smp) (k m : Nat) (h : 0 < m) : (matchRes xs k).2.2 = false → findAt xs k m = findAt xs (k + 1) (m - 1) := by
  intro h1
  obtain ⟨m, rfl⟩ : ∃ j, m = j + 1 := ⟨m - 1, by omega⟩
  rw [Nat.add_sub_cancel]
  conv => lhs; unfold findAt
  rw [h1]; rfl
theorem match_end (xs : List Smp) (k : Nat) (h : xs.length < k + 8) : (matchRes xs k).2.2 = false := by
  rw [matchRes_no]
  rw [show matchOk xs.length k = false by simp only [matchOk, Bool.and_eq_false_iff, decide_eq_false_iff_not]; omega]
  rfl
theorem findAt_end (xs : List Smp) (k m : Nat) (h : xs.length < k + 8) : findAt xs k m = none := by
  induction m generalizing k with
  | zero => rfl
  | succ m ih =>
    rw [findAt_no xs k (m + 1) (by omega) (match_end xs k h)]
    exact ih (k + 1) (by omega)
def foundR (xs : List Smp) : Option Nat → Int × Int × Int
  | some t => (t, quarterN (matchRes xs t).1, 0)
  | none => (0, 0, 4)
def findRes (xs : List Smp) (fr : Int) : Int × Int × Int := if fr < 0 then (0, 0, 2) else foundR xs (findAt xs fr.toNat (xs.length - fr.toNat))
theorem findRes_neg (xs : List Smp) (fr : Int) (h : fr < 0) : findRes xs fr = (0, 0, 2) := if_pos h
theorem findRes_nat (xs : List Smp) (f : Nat) : findRes xs f = foundR xs (findAt xs f (xs.length - f)) := by
  unfold findRes
  rw [if_neg (by omega), Int.toNat_natCast]
theorem match_abs (xs : List Smp) (at_ : Int) : (matchRes xs at_).1.i.natAbs ≤ 4194304 ∧ (matchRes xs at_).1.q.natAbs ≤ 4194304 := by
  unfold matchRes
  cases h : matchOk xs.length at_ && allB (partS xs at_.toNat (at_.toNat + 8))
  · exact ⟨Nat.zero_le _, Nat.zero_le _⟩
  · rw [Bool.and_eq_true] at h
    exact corr_abs h.2 8
/-- what Find answers -/
def FRes (w w' : World) (e : Ending) (r : Int × Int × Int) : Prop := e = .returned (.tuple #[.int .i64 r.1, .int .i64 r.2.1, .int .i64 r.2.2]) ∧ Keeps w w'
set_option maxRecDepth 100000 in
set_option maxHeartbeats 4000000 in
theorem find_any (a : Option Addr) (n cap : Nat) (xs : List Smp) (fr : Int) (w : World) (hx : SRow w a n cap xs) (hn : n ≤ 100000) (hb : -9223372036854775808 ≤ fr) :
    Calls Try.prog 53 #[.slice a n cap, .int .i64 fr] w fun e w' => FRes w w' e (findRes xs fr) := by
  have HX := Lib.hid hx
  have hlen := hx.len
  clear hx
  by_cases h0 : fr < 0
  · have HR := Lib.hid (findRes_neg xs fr h0)
    have d0 : decide (fr < 0) = true := decide_eq_true h0
    go_enter Try.func53, Try.ntmps53
    go_wp2_with fail
    refine bodyPost_ret (v := .tuple #[.int .i64 0, .int .i64 0, .int .i64 2]) (by simp [results, Try.results53, go_sem, *]) rfl ⟨by rw [HR.out], Keeps.refl w⟩
  have d0 : decide (fr < 0) = false := decide_eq_false h0
  obtain ⟨f, rfl⟩ := Int.eq_ofNat_of_zero_le (show 0 ≤ fr by omega)
  have HR := Lib.hid (findRes_nat xs f)
  obtain ⟨R, hR⟩ : ∃ R, R = findRes xs f := ⟨_, rfl⟩
  rw [← hR] at HR ⊢
  obtain ⟨O, hO⟩ : ∃ O, O = findAt xs f (xs.length - f) := ⟨_, rfl⟩
  rw [← hO] at HR
  have HO := Lib.hid hO
  have HK := Lib.hid (Keeps.refl w)
  clear hR hO h0
  go_enter Try.func53, Try.ntmps53
  go_wp2_with fail
  clear d0
  go_loopw [7] (fun i wr => ∃ k : Nat, i = .int .i64 k ∧ Hid (O = findAt xs k (xs.length - k)) ∧ Hid (Keeps w wr)) (fun i _ => n - (intOf i).toNat)
  case atStart => exact ⟨f, rfl, HO, HK⟩
  case round =>
    clear HO HK
    obtain ⟨k, rfl, HO, HK⟩ := hrel
    by_cases hlt : k + 8 ≤ n
    · have dk : decide ((k : Int) ≤ (n : Int) - 8) = true := decide_eq_true (by omega)
      have HS := Lib.hid (findAt_yes xs k (xs.length - k) (by omega))
      have HNO := Lib.hid (findAt_no xs k (xs.length - k) (by omega))
      have hba := match_abs xs k
      go_wp2_with fail
      with_reducible refine (match_any a n cap xs k _ (by exact HX.out.keeps HK.out) hn (by omega)).mono ?_
      obtain ⟨⟨⟨ci, cq⟩, N, I⟩, hM⟩ : ∃ M, M = matchRes xs k := ⟨_, rfl⟩
      rw [← hM] at HS HNO hba ⊢
      have HM := Lib.hid hM
      clear hM
      rintro e w1 ⟨rfl, hk1⟩
      replace HK := Lib.hid (HK.out.trans hk1)
      simp only at HS HNO hba
      clear hk1
      cases I
      · have HN := Lib.hid (HO.out.trans (HNO.out rfl))
        have e1 : xs.length - k - 1 = xs.length - (k + 1) := by omega
        rw [e1] at HN
        replace HK := Lib.hid (HK.out.alloc (.cells #[.int .i64 ci, .int .i64 cq] 63))
        clear HS HNO HO
        go_wp2_with fail
        go_roundw
        case rel => exact ⟨k + 1, by go_num, HN, HK⟩
        case measure => simp [intOf]; omega
      · have HN := Lib.hid (HO.out.trans (HS.out rfl))
        replace HK := Lib.hid (HK.out.alloc (.cells #[.int .i64 ci, .int .i64 cq] 63))
        go_wp2_with fail
        with_reducible refine (quarter_any ⟨ci, cq⟩ _ (by simp only; omega) (by simp only; omega)).mono ?_
        rintro e w2 ⟨rfl, hk2⟩
        replace HK := Lib.hid (HK.out.trans hk2)
        go_wp2_with fail
        refine bodyPost_ret (v := .tuple #[.int .i64 k, .int .i64 (quarterN ⟨ci, cq⟩), .int .i64 0]) (by simp [results, Try.results53, go_sem, *]) rfl ⟨?_, HK.out⟩
        rw [HR.out, HN.out]
        simp only [foundR, ← HM.out]
    · have dk : decide ((k : Int) ≤ (n : Int) - 8) = false := decide_eq_false (by omega)
      have HN := Lib.hid (HO.out.trans (findAt_end xs k _ (by omega)))
      go_wp2_with fail
      refine bodyPost_ret (v := .tuple #[.int .i64 0, .int .i64 0, .int .i64 4]) (by simp [results, Try.results53, go_sem, *]) rfl ⟨?_, HK.out⟩
      rw [HR.out, HN.out]
      rfl
set_option maxRecDepth 100000 in
set_option maxHeartbeats 4000000 in
theorem rfind_any (a : Option Addr) (n cap : Nat) (xs : List Smp) (fr : Int) (w : World) (hx : SRow w a n cap xs) (hn : n ≤ 100000) (hb : -9223372036854775808 ≤ fr) :
    Calls Try.prog 54 #[.slice a n cap, .int .i64 fr] w fun e w' => FRes w w' e (findRes xs fr) := by
  have HX := Lib.hid hx
  have hlen := hx.len
  clear hx
  by_cases h0 : fr < 0
  · have HR := Lib.hid (findRes_neg xs fr h0)
    have d0 : decide (fr < 0) = true := decide_eq_true h0
    go_enter Try.func54, Try.ntmps54
    go_wp2_with fail
    refine bodyPost_ret (v := .tuple #[.int .i64 0, .int .i64 0, .int .i64 2]) (by simp [results, Try.results54, go_sem, *]) rfl ⟨by rw [HR.out], Keeps.refl w⟩
  have d0 : decide (fr < 0) = false := decide_eq_false h0
  obtain ⟨f, rfl⟩ := Int.eq_ofNat_of_zero_le (show 0 ≤ fr by omega)
  have HR := Lib.hid (findRes_nat xs f)
  obtain ⟨R, hR⟩ : ∃ R, R = findRes xs f := ⟨_, rfl⟩
  rw [← hR] at HR ⊢
  obtain ⟨O, hO⟩ : ∃ O, O = findAt xs f (xs.length - f) := ⟨_, rfl⟩
  rw [← hO] at HR
  have HO := Lib.hid hO
  have HK := Lib.hid (Keeps.refl w)
  clear hR hO h0
  go_enter Try.func54, Try.ntmps54
  go_wp2_with fail
  clear d0
  go_loopw [7] (fun i wr => ∃ k : Nat, i = .int .i64 k ∧ Hid (O = findAt xs k (xs.length - k)) ∧ Hid (Keeps w wr)) (fun i _ => n - (intOf i).toNat)
  case atStart => exact ⟨f, rfl, HO, HK⟩
  case round =>
    clear HO HK
    obtain ⟨k, rfl, HO, HK⟩ := hrel
    by_cases hlt : k < n
    · have dk : decide ((k : Int) < (n : Int)) = true := decide_eq_true (by omega)
      have HS := Lib.hid (findAt_yes xs k (xs.length - k) (by omega))
      have HNO := Lib.hid (findAt_no xs k (xs.length - k) (by omega))
      have hba := match_abs xs k
      go_wp2_with fail
      with_reducible refine (rmatch_any a n cap xs k _ (by exact HX.out.keeps HK.out) hn (by omega)).mono ?_
      obtain ⟨⟨⟨ci, cq⟩, N, I⟩, hM⟩ : ∃ M, M = matchRes xs k := ⟨_, rfl⟩
      rw [← hM] at HS HNO hba ⊢
      have HM := Lib.hid hM
      clear hM
      rintro e w1 ⟨rfl, hk1⟩
      replace HK := Lib.hid (HK.out.trans hk1)
      simp only at HS HNO hba
      clear hk1
      cases I
      · have HN := Lib.hid (HO.out.trans (HNO.out rfl))
        have e1 : xs.length - k - 1 = xs.length - (k + 1) := by omega
        rw [e1] at HN
        replace HK := Lib.hid (HK.out.alloc (.cells #[.int .i64 ci, .int .i64 cq] 63))
        clear HS HNO HO
        go_wp2_with fail
        go_roundw
        case rel => exact ⟨k + 1, by go_num, HN, HK⟩
        case measure => simp [intOf]; omega
      · have HN := Lib.hid (HO.out.trans (HS.out rfl))
        replace HK := Lib.hid (HK.out.alloc (.cells #[.int .i64 ci, .int .i64 cq] 63))
        go_wp2_with fail
        with_reducible refine (rquarters_any ⟨ci, cq⟩ _ (by simp only; omega) (by simp only; omega)).mono ?_
        rintro e w2 ⟨rfl, hk2⟩
        replace HK := Lib.hid (HK.out.trans hk2)
        go_wp2_with fail
        refine bodyPost_ret (v := .tuple #[.int .i64 k, .int .i64 (quarterN ⟨ci, cq⟩), .int .i64 0]) (by simp [results, Try.results54, go_sem, *]) rfl ⟨?_, HK.out⟩
        rw [HR.out, HN.out]
        simp only [foundR, ← HM.out]
    · have dk : decide ((k : Int) < (n : Int)) = false := decide_eq_false (by omega)
      have HN := Lib.hid (HO.out.trans (findAt_end xs k _ (by omega)))
      go_wp2_with fail
      refine bodyPost_ret (v := .tuple #[.int .i64 0, .int .i64 0, .int .i64 4]) (by simp [results, Try.results54, go_sem, *]) rfl ⟨?_, HK.out⟩
      rw [HR.out, HN.out]
      rfl
end Go.Proofs.Ytdjbalaicfienaa
