/- The walks of layer 3, 2: all, mays, turned, two, Air. -/
import Derived.Test.YtdjbalaicfienaaP2
namespace Go.Proofs.Ytdjbalaicfienaa
open Go.RowKit
set_option linter.unusedVariables false
set_option linter.unusedSimpArgs false
def allB (xs : List Smp) : Bool := xs.all mayB
theorem allB_no (xs : List Smp) (k : Nat) (hk : k < xs.length) (h : mayB xs[k] = false) : allB xs = false := by
  unfold allB
  rw [List.all_eq_false]
  exact ⟨xs[k], List.getElem_mem hk, by simp [h]⟩
theorem allB_yes (xs : List Smp) (h : ∀ j (hj : j < xs.length), mayB xs[j] = true) : allB xs = true := by
  unfold allB
  rw [List.all_eq_true]
  intro x hx
  obtain ⟨i, hi, rfl⟩ := List.getElem_of_mem hx
  exact h i hi
theorem allB_get {xs : List Smp} (h : allB xs = true) (k : Nat) (hk : k < xs.length) : mayB xs[k] = true := by
  unfold allB at h
  exact List.all_eq_true.1 h _ (List.getElem_mem hk)
set_option maxRecDepth 100000 in
set_option maxHeartbeats 1000000 in
theorem all_samples (a : Option Addr) (n cap : Nat) (xs : List Smp) (w : World) (hx : SRow w a n cap xs) :
    Calls Try.prog 77 #[.slice a n cap] w fun e w' => e = .returned (.bool (allB xs)) ∧ Keeps w w' := by
  have HX := Lib.hid hx
  have hlen := hx.len
  have hcap := hx.hcap
  have hmax := hx.hmax
  subst hlen
  clear hx
  have HNO := Lib.hid (allB_no xs)
  have HYES := Lib.hid (allB_yes xs)
  obtain ⟨R, hR⟩ : ∃ R, R = allB xs := ⟨_, rfl⟩
  rw [← hR] at HNO HYES ⊢
  clear hR
  have HK := Lib.hid (Keeps.refl w)
  go_enter Try.func77, Try.ntmps77
  go_wp2_with fail
  go_loopw [7] (fun i wr => ∃ k : Nat, k ≤ xs.length ∧ i = .int .i64 k ∧ Hid (∀ j (hj : j < xs.length), j < k → mayB xs[j] = true) ∧ Hid (Keeps w wr)) (fun i _ => xs.length - (intOf i).toNat)
  case atStart => exact ⟨0, by omega, rfl, Lib.hid (fun j _ h => absurd h (by omega)), HK⟩
  case round =>
    clear HK
    obtain ⟨k, hk, rfl, HC, HK⟩ := hrel
    by_cases hlt : k < xs.length
    · obtain ⟨b, off, rfl, hbl, hcell⟩ := HX.out.addr (by omega)
      obtain ⟨hc0, hc1⟩ := hcell k hlt
      replace hc0 := HK.out.later hc0
      replace hc1 := HK.out.later hc1
      have HC2 := Lib.hid (HNO.out k hlt)
      have HC3 : Hid (mayB xs[k] = true → ∀ j (hj : j < xs.length), j < k + 1 → mayB xs[j] = true) := Lib.hid (by
        intro h j hj hjk
        by_cases hjk' : j = k
        · subst hjk'; exact h
        · exact HC.out j hj (by omega))
      clear hcell HC
      obtain ⟨x, hx⟩ : ∃ x, x = xs[k] := ⟨_, rfl⟩
      rw [← hx] at hc0 hc1 HC2 HC3
      clear hx
      obtain ⟨si, sq⟩ := x
      simp only at hc0 hc1
      go_wp2_with fail
      with_reducible refine (may_any ⟨si, sq⟩ _).mono ?_
      rintro e w1 ⟨rfl, hk1⟩
      have HK1 : Hid (Keeps w w1) := Lib.hid (HK.out.trans hk1.unbox)
      clear hk1 hc0 hc1 HK
      cases hm : mayB ⟨si, sq⟩
      · have HM := Lib.hid hm
        clear hm
        go_wp2_with fail
        go_ret
        exact ⟨by rw [HC2.out HM.out]; rfl, HK1.out⟩
      · have HM := Lib.hid hm
        clear hm
        go_wp2_with fail
        go_roundw
        case rel => exact ⟨k + 1, by omega, by go_num, HC3.out HM.out, HK1⟩
        case measure => simp [intOf]; omega
    · obtain rfl : k = xs.length := by omega
      go_wp2_with fail
      go_ret
      exact ⟨by rw [HYES.out fun j hj => HC.out j hj hj]; rfl, HK.out⟩
set_option maxRecDepth 100000 in
set_option maxHeartbeats 1000000 in
theorem inRange_any (z : Int) (w : World) : Calls Try.prog 104 #[.int .i64 z] w fun e w' => e = .returned (.bool (decide (-262144 ≤ z) && decide (z ≤ 262144))) ∧ w' = w := by
  cases h1 : decide (-262144 ≤ z)
  · go_enter Try.func104, Try.ntmps104
    go_wp2_with fail
    go_ret
    exact ⟨rfl, rfl⟩
  · go_enter Try.func104, Try.ntmps104
    go_wp2_with fail
    go_ret
    exact ⟨by simp, rfl⟩
set_option maxRecDepth 100000 in
set_option maxHeartbeats 1000000 in
theorem rmay_any (s : Smp) (w : World) : Calls Try.prog 100 #[s.val] w fun e w' => e = .returned (.bool (mayB s)) ∧ Keeps w w' := by
  obtain ⟨i, q⟩ := s
  have HM := Lib.hid (show mayB ⟨i, q⟩ = ((decide (-262144 ≤ i) && decide (i ≤ 262144)) && (decide (-262144 ≤ q) && decide (q ≤ 262144))) by unfold mayB; simp only [Bool.and_assoc])
  obtain ⟨M, hM⟩ : ∃ M, M = mayB ⟨i, q⟩ := ⟨_, rfl⟩
  rw [← hM] at HM ⊢
  clear hM
  show Calls Try.prog 100 #[.agg #[.int .i64 i, .int .i64 q]] w _
  go_enter Try.func100, Try.ntmps100
  go_wp2_with fail
  with_reducible refine (inRange_any i _).mono ?_
  rintro e w1 ⟨rfl, rfl⟩
  cases h1 : decide (-262144 ≤ i) && decide (i ≤ 262144)
  · rw [h1] at HM
    clear h1
    go_wp2_with fail
    go_ret
    exact ⟨by rw [HM.out]; rfl, (Keeps.refl w).alloc _⟩
  · rw [h1] at HM
    clear h1
    go_wp2_with fail
    with_reducible refine (inRange_any q _).mono ?_
    rintro e w1 ⟨rfl, rfl⟩
    go_wp2_with fail
    go_ret
    exact ⟨by rw [HM.out]; rfl, (Keeps.refl w).alloc _⟩
set_option maxRecDepth 100000 in
set_option maxHeartbeats 1000000 in
theorem mays_any (a : Option Addr) (n cap : Nat) (xs : List Smp) (w : World) (hx : SRow w a n cap xs) :
    Calls Try.prog 82 #[.slice a n cap] w fun e w' => e = .returned (.bool (allB xs)) ∧ Keeps w w' := by
  have HX := Lib.hid hx
  have hlen := hx.len
  have hcap := hx.hcap
  have hmax := hx.hmax
  subst hlen
  clear hx
  have HNO := Lib.hid (allB_no xs)
  have HYES := Lib.hid (allB_yes xs)
  obtain ⟨R, hR⟩ : ∃ R, R = allB xs := ⟨_, rfl⟩
  rw [← hR] at HNO HYES ⊢
  clear hR
  have HK := Lib.hid (Keeps.refl w)
  go_enter Try.func82, Try.ntmps82
  go_wp2_with fail
  go_loopw [3] (fun i wr => ∃ k : Nat, k ≤ xs.length ∧ i = .int .i64 k ∧ Hid (∀ j (hj : j < xs.length), j < k → mayB xs[j] = true) ∧ Hid (Keeps w wr)) (fun i _ => xs.length - (intOf i).toNat)
  case atStart => exact ⟨0, by omega, rfl, Lib.hid (fun j _ h => absurd h (by omega)), HK⟩
  case round =>
    clear HK
    obtain ⟨k, hk, rfl, HC, HK⟩ := hrel
    by_cases hlt : k < xs.length
    · obtain ⟨b, off, rfl, hbl, hcell⟩ := HX.out.addr (by omega)
      obtain ⟨hc0, hc1⟩ := hcell k hlt
      replace hc0 := HK.out.later hc0
      replace hc1 := HK.out.later hc1
      have HC2 := Lib.hid (HNO.out k hlt)
      have HC3 : Hid (mayB xs[k] = true → ∀ j (hj : j < xs.length), j < k + 1 → mayB xs[j] = true) := Lib.hid (by
        intro h j hj hjk
        by_cases hjk' : j = k
        · subst hjk'; exact h
        · exact HC.out j hj (by omega))
      clear hcell HC
      obtain ⟨x, hx⟩ : ∃ x, x = xs[k] := ⟨_, rfl⟩
      rw [← hx] at hc0 hc1 HC2 HC3
      clear hx
      obtain ⟨si, sq⟩ := x
      simp only at hc0 hc1
      go_wp2_with fail
      with_reducible refine (rmay_any ⟨si, sq⟩ _).mono ?_
      rintro e w1 ⟨rfl, hk1⟩
      have HK1 : Hid (Keeps w w1) := Lib.hid (HK.out.trans hk1)
      clear hk1 hc0 hc1 HK
      cases hm : mayB ⟨si, sq⟩
      · have HM := Lib.hid hm
        clear hm
        go_wp2_with fail
        go_ret
        exact ⟨by rw [HC2.out HM.out]; rfl, HK1.out⟩
      · have HM := Lib.hid hm
        clear hm
        go_wp2_with fail
        go_roundw
        case rel => exact ⟨k + 1, by omega, by go_num, HC3.out HM.out, HK1⟩
        case measure => simp [intOf]; omega
    · obtain rfl : k = xs.length := by omega
      go_wp2_with fail
      go_ret
      exact ⟨by rw [HYES.out fun j hj => HC.out j hj hj]; rfl, HK.out⟩
/-- a sample turned by so many quarters -/
def turnS (s : Smp) : Nat → Smp
  | 0 => s
  | 1 => ⟨-s.q, s.i⟩
  | 2 => ⟨-s.i, -s.q⟩
  | _ => ⟨s.q, -s.i⟩
theorem turnS_unit (s : Smp) (k : Nat) : (turnS s k).i = s.i * (unitOf k).1 - s.q * (unitOf k).2 ∧ (turnS s k).q = s.i * (unitOf k).2 + s.q * (unitOf k).1 := by
  match k with
  | 0 => simp [turnS, unitOf]
  | 1 => simp [turnS, unitOf]
  | 2 => simp [turnS, unitOf]
  | k + 3 => simp [turnS, unitOf]
theorem wrap_small {z : Int} (h : z.natAbs < 2 ^ 53) : IntKind.i64.wrap z = z := by simp [IntKind.wrap, IntKind.bits, IntKind.signed]; omega
set_option maxRecDepth 100000 in
set_option maxHeartbeats 2000000 in
theorem turned_any (s : Smp) (q : Int) (w : World) (h1 : s.i.natAbs < 2 ^ 53) (h2 : s.q.natAbs < 2 ^ 53) :
    Calls Try.prog 83 #[s.val, .int .i64 q] w fun e w' => e = .returned (turnS s (qOf q)).val ∧ Keeps w w' := by
  obtain ⟨k, hk, hq, hm⟩ := qOf_cases q
  have hb1 := Int.tmod_lt_of_pos q (show (0 : Int) < 4 by decide)
  have hb2 := Int.lt_tmod_of_pos q (show (0 : Int) < 4 by decide)
  have hw : IntKind.i64.wrap (q.tmod 4 + 4) = q.tmod 4 + 4 := by simp [IntKind.wrap, IntKind.bits, IntKind.signed]; omega
  rw [hq]
  clear hq hb1 hb2
  obtain ⟨i, qq⟩ := s
  simp only at h1 h2
  have hn1 : IntKind.i64.wrap (-i) = -i := wrap_small (by omega)
  have hn2 : IntKind.i64.wrap (-qq) = -qq := wrap_small (by omega)
  clear h1 h2
  show Calls Try.prog 83 #[.agg #[.int .i64 i, .int .i64 qq], .int .i64 q] w _
  match k, hk with
  | 0, _ =>
    rw [show ((0 : Nat) : Int) = 0 from rfl] at hm
    go_enter Try.func83, Try.ntmps83
    go_wp2_with fail
    refine bodyPost_ret (v := .agg #[.int .i64 i, .int .i64 qq]) (by simp [results, Try.results83, go_sem, *]) rfl ⟨rfl, ?_⟩
    repeat (with_reducible refine Keeps.setCell ?_ (by first | (simp; done) | (simp; omega) | exact Nat.le_refl _) _)
    exact ((Keeps.refl w).alloc _).alloc _
  | 1, _ =>
    rw [show ((1 : Nat) : Int) = 1 from rfl] at hm
    go_enter Try.func83, Try.ntmps83
    go_wp2_with fail
    refine bodyPost_ret (v := .agg #[.int .i64 (-qq), .int .i64 i]) (by simp [results, Try.results83, go_sem, *]) rfl ⟨rfl, ?_⟩
    repeat (with_reducible refine Keeps.setCell ?_ (by first | (simp; done) | (simp; omega) | exact Nat.le_refl _) _)
    exact ((Keeps.refl w).alloc _).alloc _
  | 2, _ =>
    rw [show ((2 : Nat) : Int) = 2 from rfl] at hm
    go_enter Try.func83, Try.ntmps83
    go_wp2_with fail
    refine bodyPost_ret (v := .agg #[.int .i64 (-i), .int .i64 (-qq)]) (by simp [results, Try.results83, go_sem, *]) rfl ⟨rfl, ?_⟩
    repeat (with_reducible refine Keeps.setCell ?_ (by first | (simp; done) | (simp; omega) | exact Nat.le_refl _) _)
    exact ((Keeps.refl w).alloc _).alloc _
  | 3, _ =>
    rw [show ((3 : Nat) : Int) = 3 from rfl] at hm
    go_enter Try.func83, Try.ntmps83
    go_wp2_with fail
    refine bodyPost_ret (v := .agg #[.int .i64 qq, .int .i64 (-i)]) (by simp [results, Try.results83, go_sem, *]) rfl ⟨rfl, ?_⟩
    repeat (with_reducible refine Keeps.setCell ?_ (by first | (simp; done) | (simp; omega) | exact Nat.le_refl _) _)
    exact ((Keeps.refl w).alloc _).alloc _
/-- two bits as a sample -/
def twoS (a b : Bool) (amp : Int) : Smp := ⟨cond b (-amp) amp, cond a (-amp) amp⟩
set_option maxRecDepth 100000 in
set_option maxHeartbeats 2000000 in
theorem two_any (a b : Bool) (amp : Int) (w : World) (h : amp.natAbs < 2 ^ 53) :
    Calls Try.prog 98 #[.bool a, .bool b, .int .i64 amp] w fun e w' => e = .returned (twoS a b amp).val ∧ Keeps w w' := by
  have hn : IntKind.i64.wrap (-amp) = -amp := wrap_small (by omega)
  clear h
  cases a <;> cases b
  · go_enter Try.func98, Try.ntmps98
    go_wp2_with fail
    refine bodyPost_ret (v := .agg #[.int .i64 amp, .int .i64 amp]) (by simp [results, Try.results98, go_sem, *]) rfl ⟨rfl, ?_⟩
    repeat (with_reducible refine Keeps.setCell ?_ (by first | (simp; done) | (simp; omega) | exact Nat.le_refl _) _)
    exact ((Keeps.refl w).alloc _).alloc _
  · go_enter Try.func98, Try.ntmps98
    go_wp2_with fail
    refine bodyPost_ret (v := .agg #[.int .i64 (-amp), .int .i64 amp]) (by simp [results, Try.results98, go_sem, *]) rfl ⟨rfl, ?_⟩
    repeat (with_reducible refine Keeps.setCell ?_ (by first | (simp; done) | (simp; omega) | exact Nat.le_refl _) _)
    exact ((Keeps.refl w).alloc _).alloc _
  · go_enter Try.func98, Try.ntmps98
    go_wp2_with fail
    refine bodyPost_ret (v := .agg #[.int .i64 amp, .int .i64 (-amp)]) (by simp [results, Try.results98, go_sem, *]) rfl ⟨rfl, ?_⟩
    repeat (with_reducible refine Keeps.setCell ?_ (by first | (simp; done) | (simp; omega) | exact Nat.le_refl _) _)
    exact ((Keeps.refl w).alloc _).alloc _
  · go_enter Try.func98, Try.ntmps98
    go_wp2_with fail
    refine bodyPost_ret (v := .agg #[.int .i64 (-amp), .int .i64 (-amp)]) (by simp [results, Try.results98, go_sem, *]) rfl ⟨rfl, ?_⟩
    repeat (with_reducible refine Keeps.setCell ?_ (by first | (simp; done) | (simp; omega) | exact Nat.le_refl _) _)
    exact ((Keeps.refl w).alloc _).alloc _
/-- how many samples -/
def airN (n : Int) : Int := if n < 0 ∨ 4095 < n then 0 else 14 + (n + 1) / 2
theorem air_quo (n : Int) (h : 0 ≤ n) : (n + 1).tdiv 2 = (n + 1) / 2 := Int.tdiv_eq_ediv_of_nonneg (by omega)
end Go.Proofs.Ytdjbalaicfienaa
