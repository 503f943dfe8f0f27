/- The walks of layer 12, 1: Check. -/
import Derived.Test.YtcophhdlcjemeaaK0
import Derived.Shelf.Abstract
import Derived.Shelf.RegionOpen
namespace Go.Proofs.Ytcophhdlcjemeaa
open Go.RowKit Go.Shelf
set_option linter.unusedVariables false
set_option linter.unusedSimpArgs false
theorem within12_any (n a b : Int) (w : World) : Calls Try.prog 61 #[.int .i64 n, .int .i64 a, .int .i64 b] w fun e w' => e = .returned (.bool (betw n a b)) ∧ w' = w := by
  have HR : Hid (betw n a b = (decide (a ≤ n) && decide (n ≤ b))) := Lib.hid rfl
  obtain ⟨R, hR⟩ : ∃ R, R = betw n a b := ⟨_, rfl⟩
  rw [← hR] at HR ⊢
  clear hR
  by_cases h1 : a ≤ n
  · have d1 : decide (a ≤ n) = true := decide_eq_true h1
    have d2 : decide (n < a) = false := by simpa using h1
    rw [d1] at HR
    by_cases h2 : n ≤ b
    · have e1 : decide (n ≤ b) = true := decide_eq_true h2
      have e2 : decide (b < n) = false := by simpa using h2
      rw [e1] at HR
      go_enter Try.func61, Try.ntmps61
      go_wp2_with fail
      go_ret
      exact ⟨by rw [HR.out]; rfl, rfl⟩
    · have e1 : decide (n ≤ b) = false := decide_eq_false h2
      rw [e1] at HR
      go_enter Try.func61, Try.ntmps61
      go_wp2_with fail
      go_ret
      exact ⟨by rw [HR.out]; rfl, rfl⟩
  · have d1 : decide (a ≤ n) = false := decide_eq_false h1
    rw [d1] at HR
    go_enter Try.func61, Try.ntmps61
    go_wp2_with fail
    go_ret
    exact ⟨by rw [HR.out]; rfl, rfl⟩
set_option maxRecDepth 100000 in
set_option maxHeartbeats 1000000 in
theorem odd_any (x : RMsg) (w : World) (hx : x.d.In w) :
    Calls Try.prog 63 #[x.val] w fun e w' => e = .returned (.bool (!msgOk x.p)) ∧ Keeps w w' := by
  have hl := hx.row.1
  have hc := hx.cap
  have hmx := hx.max
  obtain ⟨⟨a, len, cap, l⟩, age⟩ := x
  simp only at hl hc hmx
  have HR : Hid (msgOk (RMsg.p ⟨⟨a, len, cap, l⟩, age⟩) = (decide (len ≤ 8) && betw age 0 255)) := Lib.hid (by rw [← hl]; rfl)
  obtain ⟨R, hR⟩ : ∃ R, R = msgOk (RMsg.p ⟨⟨a, len, cap, l⟩, age⟩) := ⟨_, rfl⟩
  rw [← hR] at HR ⊢
  clear hR
  have HK := Lib.hid ((Keeps.refl w).alloc (.cells #[.slice a len cap, .int .i64 age] 53))
  show Calls Try.prog 63 #[.agg #[.slice a len cap, .int .i64 age]] w _
  by_cases h1 : len ≤ 8
  · have d1 : decide (8 < len) = false := by simpa using h1
    have d2 : decide ((8 : Int) < (len : Int)) = false := by simp; omega
    obtain ⟨B, hB⟩ : ∃ B, B = betw age 0 255 := ⟨_, rfl⟩
    have HW := Lib.hid (within12_any age 0 255)
    rw [← hB] at HR HW
    rw [decide_eq_true h1] at HR
    clear hB
    cases B
    · go_enter Try.func63, Try.ntmps63
      go_wp2_with (go_at_call 61; (with_reducible refine (HW.out _).mono ?_); rintro e w' ⟨rfl, rfl⟩)
      go_ret
      exact ⟨by rw [HR.out]; rfl, HK.out⟩
    · go_enter Try.func63, Try.ntmps63
      go_wp2_with (go_at_call 61; (with_reducible refine (HW.out _).mono ?_); rintro e w' ⟨rfl, rfl⟩)
      go_ret
      exact ⟨by rw [HR.out]; rfl, HK.out⟩
  · have d1 : decide (8 < len) = true := by simpa using h1
    have d2 : decide ((8 : Int) < (len : Int)) = true := by simp; omega
    rw [decide_eq_false h1] at HR
    go_enter Try.func63, Try.ntmps63
    go_wp2_with fail
    go_ret
    exact ⟨by rw [HR.out]; rfl, HK.out⟩
theorem msgs_no (ms : List RMsg) (x : RMsg) (hx : x ∈ ms) (h : msgOk x.p = false) : (ms.map RMsg.p).all msgOk = false := by
  rw [Bool.eq_false_iff]
  intro hh
  rw [List.all_eq_true] at hh
  have := hh _ (List.mem_map_of_mem hx)
  rw [h] at this
  cases this
theorem msgs_yes (ms : List RMsg) (h : ∀ i (hi : i < ms.length), msgOk ms[i].p = true) : (ms.map RMsg.p).all msgOk = true := by
  rw [List.all_eq_true]
  intro y hy
  obtain ⟨x, hx, rfl⟩ := List.mem_map.1 hy
  obtain ⟨i, hi, rfl⟩ := List.getElem_of_mem hx
  exact h i hi
set_option maxRecDepth 100000 in
set_option maxHeartbeats 1000000 in
theorem idxMsgs_any (a : Option Addr) (n cap : Nat) (ms : List RMsg) (w : World) (hm : RMss w a n cap ms) :
    Calls Try.prog 88 #[.slice a n cap, .func (.func 63) #[] #[]] w fun e w' => (∃ z : Int, e = .returned (.int .i64 z) ∧ decide (0 ≤ z) = !(ms.map RMsg.p).all msgOk) ∧ Keeps w w' := by
  have eg : ∀ args w, (callFunc 63 args).run Try.prog w = .ok (.enter 63 args) w := enters_of Try.func63 (by kernel_rfl) rfl
  have hlen := hm.len
  have hcap := hm.hcap
  have hmax := hm.hmax
  subst hlen
  have HX := Lib.hid hm
  clear hm
  have HY := Lib.hid (msgs_yes ms)
  have HN := Lib.hid (msgs_no ms)
  obtain ⟨R, hR⟩ : ∃ R, R = (ms.map RMsg.p).all msgOk := ⟨_, rfl⟩
  rw [← hR] at HY HN ⊢
  clear hR
  go_enter Try.func88, Try.ntmps88
  go_wp2_with fail
  go_loopw [8] (fun i wr => ∃ k : Nat, k ≤ ms.length ∧ i = .int .i64 k ∧ Hid (∀ i (hi : i < ms.length), i < k → msgOk ms[i].p = true) ∧ Hid (Keeps w wr)) (fun i _ => ms.length - (intOf i).toNat)
  case atStart => exact ⟨0, by omega, rfl, fun i _ hi => absurd hi (by omega), Keeps.refl _⟩
  case round =>
    obtain ⟨k, hk, rfl, HI, HK⟩ := hrel
    by_cases hlt : k < ms.length
    · obtain ⟨b, off, rfl, hcell⟩ := HX.out.addr (by omega)
      obtain ⟨hc0, hc1⟩ := hcell k hlt
      replace hc0 := HK.out.later hc0
      replace hc1 := HK.out.later hc1
      have HXI := Lib.hid (HX.out.isIn _ (List.getElem_mem hlt))
      clear hcell
      have HNO : Hid (msgOk ms[k].p = false → R = false) := fun h => HN.out _ (List.getElem_mem hlt) h
      have HYES : Hid (msgOk ms[k].p = true → ∀ i (hi : i < ms.length), i < k + 1 → msgOk ms[i].p = true) := fun h i hi hik => by
        by_cases e : i = k
        · subst e; exact h
        · exact HI.out i hi (by omega)
      obtain ⟨x, hx⟩ : ∃ x, x = ms[k] := ⟨_, rfl⟩
      rw [← hx] at hc0 hc1 HXI HNO HYES
      clear hx HI
      have HCON : Hid (∀ w', Keeps w w' → Calls Try.prog 63 #[x.val] w' fun e w'' => e = .returned (.bool (!msgOk x.p)) ∧ Keeps w' w'') := fun w' hk => odd_any x w' (HXI.out.keeps hk)
      obtain ⟨A, hA⟩ : ∃ A, A = msgOk x.p := ⟨_, rfl⟩
      rw [← hA] at HCON HNO HYES
      clear hA
      obtain ⟨⟨da, dlen, dcap, dl⟩, age⟩ := x
      simp only at hc0 hc1 HXI
      cases A
      · go_wp2_with (go_at_fn 63; with_reducible refine (HCON.out _ HK.out).mono ?_; rintro e w1 ⟨rfl, hk1⟩)
        go_ret
        exact ⟨⟨k, rfl, by rw [HNO.out trivial]; simp⟩, HK.out.trans hk1⟩
      · go_wp2_with (go_at_fn 63; with_reducible refine (HCON.out _ HK.out).mono ?_; rintro e w1 ⟨rfl, hk1⟩)
        go_roundw
        case rel => exact ⟨k + 1, by omega, by go_num, HYES.out trivial, HK.out.trans hk1⟩
        case measure => simp [intOf]; omega
    · obtain rfl : k = ms.length := by omega
      have HR : Hid (R = true) := Lib.hid (HY.out fun i hi => HI.out i hi hi)
      go_wp2_with fail
      go_ret
      exact ⟨⟨-1, rfl, by rw [HR.out]; rfl⟩, HK.out⟩
set_option maxRecDepth 100000 in
set_option maxHeartbeats 1000000 in
theorem hasMsgs_any (a : Option Addr) (n cap : Nat) (ms : List RMsg) (w : World) (hm : RMss w a n cap ms) :
    Calls Try.prog 64 #[.slice a n cap, .func (.func 63) #[] #[]] w fun e w' => e = .returned (.bool (!(ms.map RMsg.p).all msgOk)) ∧ Keeps w w' := by
  have HCON := Lib.hid (idxMsgs_any a n cap ms w hm)
  clear hm
  obtain ⟨R, hR⟩ : ∃ R, R = (ms.map RMsg.p).all msgOk := ⟨_, rfl⟩
  rw [← hR] at HCON ⊢
  clear hR
  go_enter Try.func64, Try.ntmps64
  go_wp2_with fail
  with_reducible refine HCON.out.mono ?_
  rintro e w1 ⟨⟨z, rfl, hz⟩, hk1⟩
  have HZ := Lib.hid hz
  clear hz
  by_cases h : 0 ≤ z
  · have hd : decide (0 ≤ z) = true := by simpa using h
    rw [hd] at HZ
    go_wp2_with fail
    go_ret
    exact ⟨ret_bool HZ.out, hk1⟩
  · have hd : decide (0 ≤ z) = false := by simpa using h
    rw [hd] at HZ
    go_wp2_with fail
    go_ret
    exact ⟨ret_bool HZ.out, hk1⟩
set_option maxRecDepth 100000 in
set_option maxHeartbeats 1000000 in
theorem ccheck_any (c : RCni) (w : World) (hc : c.In w) : Calls Try.prog 25 #[c.val] w fun e w' => e = .returned (.int .i64 (cond (cniOk c.p) 0 120)) ∧ Keeps w w' := by
  have HC := Lib.hid hc
  have hn := hc.m.len
  have hol := hc.o.row.1
  have hn63 := Nat.le_trans hc.m.hcap hc.m.hmax
  have ho63 := Nat.le_trans hc.o.cap hc.o.max
  clear hc
  obtain ⟨id, ⟨oa, olen, ocap, ol⟩, ia, n, cap, ms, life, want⟩ := c
  simp only at hn hol hn63 ho63
  have HR : Hid (cniOk (RCni.p ⟨id, ⟨oa, olen, ocap, ol⟩, ia, n, cap, ms, life, want⟩) = (betw n 4 8 && (betw id 0 (n - 1) && (decide (olen ≤ 8) && (betw life 0 4 && (betw want (-1) 3 && (ms.map RMsg.p).all msgOk)))))) := Lib.hid (by rw [← hn, ← hol]; unfold cniOk RCni.p; simp only [List.length_map])
  clear hn hol
  have HK := Lib.hid ((Keeps.refl w).alloc (.cells #[.int .i64 id, .slice oa olen ocap, .slice ia n cap, .int .i64 life, .int .i64 want] 39))
  show Calls Try.prog 25 #[.agg #[.int .i64 id, .slice oa olen ocap, .slice ia n cap, .int .i64 life, .int .i64 want]] w _
  by_cases t1 : betw n 4 8 = true
  case neg =>
    have e1 : betw n 4 8 = false := by simpa using t1
    have HE : Hid (cniOk (RCni.p ⟨id, ⟨oa, olen, ocap, ol⟩, ia, n, cap, ms, life, want⟩) = false) := Lib.hid (by rw [HR.out]; simp [e1])
    go_enter Try.func25, Try.ntmps25
    go_wp2_with ((go_at_call 61; (with_reducible refine (within12_any _ _ _ _).mono ?_); rintro e w' ⟨rfl, rfl⟩))
    go_ret
    exact ⟨by rw [HE.out]; rfl, HK.out⟩
  have f1 := (betw_iff _ _ _).1 t1
  by_cases t2 : betw id 0 (n - 1) = true
  case neg =>
    have e2 : betw id 0 (n - 1) = false := by simpa using t2
    have HE : Hid (cniOk (RCni.p ⟨id, ⟨oa, olen, ocap, ol⟩, ia, n, cap, ms, life, want⟩) = false) := Lib.hid (by rw [HR.out]; simp [e2])
    go_enter Try.func25, Try.ntmps25
    go_wp2_with ((go_at_call 61; (with_reducible refine (within12_any _ _ _ _).mono ?_); rintro e w' ⟨rfl, rfl⟩))
    go_ret
    exact ⟨by rw [HE.out]; rfl, HK.out⟩
  by_cases t3 : olen ≤ 8
  case neg =>
    have e3 : decide (8 < olen) = true := by simpa using t3
    have e3' : decide ((8 : Int) < (olen : Int)) = true := by simp; omega
    have e3'' : decide (olen ≤ 8) = false := decide_eq_false t3
    have HE : Hid (cniOk (RCni.p ⟨id, ⟨oa, olen, ocap, ol⟩, ia, n, cap, ms, life, want⟩) = false) := Lib.hid (by rw [HR.out]; simp [e3''])
    go_enter Try.func25, Try.ntmps25
    go_wp2_with ((go_at_call 61; (with_reducible refine (within12_any _ _ _ _).mono ?_); rintro e w' ⟨rfl, rfl⟩))
    go_ret
    exact ⟨by rw [HE.out]; rfl, HK.out⟩
  have d3 : decide (8 < olen) = false := by simpa using t3
  have d3' : decide ((8 : Int) < (olen : Int)) = false := by simp; omega
  have T3 := Lib.hid (decide_eq_true t3)
  by_cases t4 : betw life 0 4 = true
  case neg =>
    have e4 : betw life 0 4 = false := by simpa using t4
    have HE : Hid (cniOk (RCni.p ⟨id, ⟨oa, olen, ocap, ol⟩, ia, n, cap, ms, life, want⟩) = false) := Lib.hid (by rw [HR.out]; simp [e4])
    go_enter Try.func25, Try.ntmps25
    go_wp2_with ((go_at_call 61; (with_reducible refine (within12_any _ _ _ _).mono ?_); rintro e w' ⟨rfl, rfl⟩))
    go_ret
    exact ⟨by rw [HE.out]; rfl, HK.out⟩
  by_cases t5 : betw want (-1) 3 = true
  case neg =>
    have e5 : betw want (-1) 3 = false := by simpa using t5
    have HE : Hid (cniOk (RCni.p ⟨id, ⟨oa, olen, ocap, ol⟩, ia, n, cap, ms, life, want⟩) = false) := Lib.hid (by rw [HR.out]; simp [e5])
    go_enter Try.func25, Try.ntmps25
    go_wp2_with ((go_at_call 61; (with_reducible refine (within12_any _ _ _ _).mono ?_); rintro e w' ⟨rfl, rfl⟩))
    go_ret
    exact ⟨by rw [HE.out]; rfl, HK.out⟩
  have HCON := Lib.hid (fun w' (h : Keeps w w') => hasMsgs_any ia n cap ms w' (HC.out.m.keeps h))
  obtain ⟨A, hA⟩ : ∃ A, A = (ms.map RMsg.p).all msgOk := ⟨_, rfl⟩
  rw [← hA] at HCON HR
  clear hA
  have HE : Hid (cniOk (RCni.p ⟨id, ⟨oa, olen, ocap, ol⟩, ia, n, cap, ms, life, want⟩) = A) := Lib.hid (by rw [HR.out]; simp only [t1, t2, T3.out, t4, t5, Bool.true_and])
  cases A
  · go_enter Try.func25, Try.ntmps25
    go_wp2_with ((go_at_call 61; (with_reducible refine (within12_any _ _ _ _).mono ?_); rintro e w' ⟨rfl, rfl⟩))
    (with_reducible refine (HCON.out _ HK.out).mono ?_)
    rintro e w1 ⟨rfl, hk1⟩
    replace HK := Lib.hid (HK.out.trans hk1)
    go_wp2_with fail
    go_ret
    exact ⟨by rw [HE.out]; rfl, HK.out⟩
  · go_enter Try.func25, Try.ntmps25
    go_wp2_with ((go_at_call 61; (with_reducible refine (within12_any _ _ _ _).mono ?_); rintro e w' ⟨rfl, rfl⟩))
    (with_reducible refine (HCON.out _ HK.out).mono ?_)
    rintro e w1 ⟨rfl, hk1⟩
    replace HK := Lib.hid (HK.out.trans hk1)
    go_wp2_with fail
    go_ret
    exact ⟨by rw [HE.out]; rfl, HK.out⟩
end Go.Proofs.Ytcophhdlcjemeaa
