/- The walks of layer 12, 2: the reference's Check. -/
import Derived.Test.YtcophhdlcjemeaaK1
namespace Go.Proofs.Ytcophhdlcjemeaa
open Go.RowKit
set_option linter.unusedVariables false
set_option linter.unusedSimpArgs false
theorem msgOk_iff (m : PMsg) : msgOk m = true ↔ m.1.length ≤ 8 ∧ 0 ≤ m.2 ∧ m.2 ≤ 255 := by unfold msgOk; simp only [Bool.and_eq_true, betw_iff, decide_eq_true_eq]
set_option maxRecDepth 100000 in
set_option maxHeartbeats 2000000 in
theorem rccheck_any (c : RCni) (w : World) (hc : c.In w) : Calls Try.prog 33 #[c.val] w fun e w' => e = .returned (.int .i64 (cond (cniOk c.p) 0 120)) ∧ Keeps w w' := by
  have HC := Lib.hid hc
  have hn := hc.m.len
  have hol := hc.o.row.1
  have hn63 := Nat.le_trans hc.m.hcap hc.m.hmax
  have ho63 := Nat.le_trans hc.o.cap hc.o.max
  clear hc
  obtain ⟨id, ⟨oa, olen, ocap, ol⟩, ia, n, cap, ms, life, want⟩ := c
  simp only at hn hol hn63 ho63
  have HN := Lib.hid hn
  have HOL := Lib.hid hol
  clear hn hol
  have HK := Lib.hid ((Keeps.refl w).alloc (.cells #[.int .i64 id, .slice oa olen ocap, .slice ia n cap, .int .i64 life, .int .i64 want] 39))
  show Calls Try.prog 33 #[.agg #[.int .i64 id, .slice oa olen ocap, .slice ia n cap, .int .i64 life, .int .i64 want]] w _
  by_cases t0 : n < 4
  · have HE : Hid (cniOk (RCni.p ⟨id, ⟨oa, olen, ocap, ol⟩, ia, n, cap, ms, life, want⟩) = false) := Lib.hid (by
      have h1 := HN.out
      have h2 := HOL.out
      rw [Bool.eq_false_iff, ne_eq, cniOk_iff]
      simp only [RCni.p, List.length_map, h1, h2]
      rintro ⟨h3, h4, h5, h6, h7, -⟩
      omega)
    have d00 : decide (n < 4) = true := by simp; omega
    have d01 : decide ((n : Int) < 4) = true := by simp; omega
    go_enter Try.func33, Try.ntmps33
    go_wp2_with fail
    go_ret
    exact ⟨by rw [HE.out]; rfl, HK.out⟩
  have d00 : decide (n < 4) = false := by simp; omega
  have d01 : decide ((n : Int) < 4) = false := by simp; omega
  by_cases t1 : 8 < n
  · have HE : Hid (cniOk (RCni.p ⟨id, ⟨oa, olen, ocap, ol⟩, ia, n, cap, ms, life, want⟩) = false) := Lib.hid (by
      have h1 := HN.out
      have h2 := HOL.out
      rw [Bool.eq_false_iff, ne_eq, cniOk_iff]
      simp only [RCni.p, List.length_map, h1, h2]
      rintro ⟨h3, h4, h5, h6, h7, -⟩
      omega)
    have d10 : decide (8 < n) = true := by simp; omega
    have d11 : decide ((8 : Int) < (n : Int)) = true := by simp; omega
    go_enter Try.func33, Try.ntmps33
    go_wp2_with fail
    go_ret
    exact ⟨by rw [HE.out]; rfl, HK.out⟩
  have d10 : decide (8 < n) = false := by simp; omega
  have d11 : decide ((8 : Int) < (n : Int)) = false := by simp; omega
  by_cases t2 : id < 0
  · have HE : Hid (cniOk (RCni.p ⟨id, ⟨oa, olen, ocap, ol⟩, ia, n, cap, ms, life, want⟩) = false) := Lib.hid (by
      have h1 := HN.out
      have h2 := HOL.out
      rw [Bool.eq_false_iff, ne_eq, cniOk_iff]
      simp only [RCni.p, List.length_map, h1, h2]
      rintro ⟨h3, h4, h5, h6, h7, -⟩
      omega)
    have d20 : decide (id < 0) = true := by simp; omega
    go_enter Try.func33, Try.ntmps33
    go_wp2_with fail
    go_ret
    exact ⟨by rw [HE.out]; rfl, HK.out⟩
  have d20 : decide (id < 0) = false := by simp; omega
  by_cases t3 : (n : Int) ≤ id
  · have HE : Hid (cniOk (RCni.p ⟨id, ⟨oa, olen, ocap, ol⟩, ia, n, cap, ms, life, want⟩) = false) := Lib.hid (by
      have h1 := HN.out
      have h2 := HOL.out
      rw [Bool.eq_false_iff, ne_eq, cniOk_iff]
      simp only [RCni.p, List.length_map, h1, h2]
      rintro ⟨h3, h4, h5, h6, h7, -⟩
      omega)
    have d30 : decide ((n : Int) ≤ id) = true := by simp; omega
    go_enter Try.func33, Try.ntmps33
    go_wp2_with fail
    go_ret
    exact ⟨by rw [HE.out]; rfl, HK.out⟩
  have d30 : decide ((n : Int) ≤ id) = false := by simp; omega
  by_cases t4 : 8 < olen
  · have HE : Hid (cniOk (RCni.p ⟨id, ⟨oa, olen, ocap, ol⟩, ia, n, cap, ms, life, want⟩) = false) := Lib.hid (by
      have h1 := HN.out
      have h2 := HOL.out
      rw [Bool.eq_false_iff, ne_eq, cniOk_iff]
      simp only [RCni.p, List.length_map, h1, h2]
      rintro ⟨h3, h4, h5, h6, h7, -⟩
      omega)
    have d40 : decide (8 < olen) = true := by simp; omega
    have d41 : decide ((8 : Int) < (olen : Int)) = true := by simp; omega
    go_enter Try.func33, Try.ntmps33
    go_wp2_with fail
    go_ret
    exact ⟨by rw [HE.out]; rfl, HK.out⟩
  have d40 : decide (8 < olen) = false := by simp; omega
  have d41 : decide ((8 : Int) < (olen : Int)) = false := by simp; omega
  by_cases t5 : life < 0
  · have HE : Hid (cniOk (RCni.p ⟨id, ⟨oa, olen, ocap, ol⟩, ia, n, cap, ms, life, want⟩) = false) := Lib.hid (by
      have h1 := HN.out
      have h2 := HOL.out
      rw [Bool.eq_false_iff, ne_eq, cniOk_iff]
      simp only [RCni.p, List.length_map, h1, h2]
      rintro ⟨h3, h4, h5, h6, h7, -⟩
      omega)
    have d50 : decide (life < 0) = true := by simp; omega
    go_enter Try.func33, Try.ntmps33
    go_wp2_with fail
    go_ret
    exact ⟨by rw [HE.out]; rfl, HK.out⟩
  have d50 : decide (life < 0) = false := by simp; omega
  by_cases t6 : 4 < life
  · have HE : Hid (cniOk (RCni.p ⟨id, ⟨oa, olen, ocap, ol⟩, ia, n, cap, ms, life, want⟩) = false) := Lib.hid (by
      have h1 := HN.out
      have h2 := HOL.out
      rw [Bool.eq_false_iff, ne_eq, cniOk_iff]
      simp only [RCni.p, List.length_map, h1, h2]
      rintro ⟨h3, h4, h5, h6, h7, -⟩
      omega)
    have d60 : decide (4 < life) = true := by simp; omega
    go_enter Try.func33, Try.ntmps33
    go_wp2_with fail
    go_ret
    exact ⟨by rw [HE.out]; rfl, HK.out⟩
  have d60 : decide (4 < life) = false := by simp; omega
  by_cases t7 : want < -1
  · have HE : Hid (cniOk (RCni.p ⟨id, ⟨oa, olen, ocap, ol⟩, ia, n, cap, ms, life, want⟩) = false) := Lib.hid (by
      have h1 := HN.out
      have h2 := HOL.out
      rw [Bool.eq_false_iff, ne_eq, cniOk_iff]
      simp only [RCni.p, List.length_map, h1, h2]
      rintro ⟨h3, h4, h5, h6, h7, -⟩
      omega)
    have d70 : decide (want < -1) = true := by simp; omega
    go_enter Try.func33, Try.ntmps33
    go_wp2_with fail
    go_ret
    exact ⟨by rw [HE.out]; rfl, HK.out⟩
  have d70 : decide (want < -1) = false := by simp; omega
  by_cases t8 : 4 ≤ want
  · have HE : Hid (cniOk (RCni.p ⟨id, ⟨oa, olen, ocap, ol⟩, ia, n, cap, ms, life, want⟩) = false) := Lib.hid (by
      have h1 := HN.out
      have h2 := HOL.out
      rw [Bool.eq_false_iff, ne_eq, cniOk_iff]
      simp only [RCni.p, List.length_map, h1, h2]
      rintro ⟨h3, h4, h5, h6, h7, -⟩
      omega)
    have d80 : decide (4 ≤ want) = true := by simp; omega
    go_enter Try.func33, Try.ntmps33
    go_wp2_with fail
    go_ret
    exact ⟨by rw [HE.out]; rfl, HK.out⟩
  have d80 : decide (4 ≤ want) = false := by simp; omega
  have HNO : Hid (∀ i (hi : i < ms.length), msgOk ms[i].p = false → cniOk (RCni.p ⟨id, ⟨oa, olen, ocap, ol⟩, ia, n, cap, ms, life, want⟩) = false) := Lib.hid (fun i hi h => by
    rw [Bool.eq_false_iff, ne_eq, cniOk_iff]
    rintro ⟨h3, h4, h5, h6, h7, h8⟩
    have := h8 _ (List.mem_map_of_mem (List.getElem_mem hi))
    rw [← msgOk_iff, h] at this
    cases this)
  have HYES : Hid ((∀ i (hi : i < ms.length), i < n → msgOk ms[i].p = true) → cniOk (RCni.p ⟨id, ⟨oa, olen, ocap, ol⟩, ia, n, cap, ms, life, want⟩) = true) := Lib.hid (fun h => by
    rw [cniOk_iff]
    simp only [RCni.p, List.length_map, HN.out, HOL.out]
    refine ⟨by omega, by omega, by omega, by omega, by omega, fun m hm => ?_⟩
    obtain ⟨x, hx, rfl⟩ := List.mem_map.1 hm
    obtain ⟨i, hi, rfl⟩ := List.getElem_of_mem hx
    exact (msgOk_iff _).1 (h i hi (by rw [← HN.out]; exact hi)))
  clear t0 t1 t2 t3 t4 t5 t6 t7 t8
  go_enter Try.func33, Try.ntmps33
  go_wp2_with fail
  go_loop [4] (fun i => ∃ k : Nat, k ≤ n ∧ i = .int .i64 k ∧ Hid (∀ i (hi : i < ms.length), i < k → msgOk ms[i].p = true)) (fun i => n - (intOf i).toNat)
  case atStart => exact ⟨0, Nat.zero_le _, rfl, fun i _ hi => absurd hi (by omega)⟩
  case round =>
    obtain ⟨k, hk, rfl, HI⟩ := hrel
    by_cases hlt : k < n
    · have hk' : k < ms.length := by rw [HN.out]; exact hlt
      have HM := Lib.hid (HC.out.m.keeps HK.out)
      obtain ⟨b, off, hab, hcell⟩ := HC.out.m.addr (show 0 < ms.length by omega)
      simp only at hab
      subst hab
      obtain ⟨hc0, hc1⟩ := hcell k hk'
      replace hc0 := HK.out.later hc0
      replace hc1 := HK.out.later hc1
      have HDL0 := Lib.hid (HC.out.m.isIn _ (List.getElem_mem hk')).row.1
      have HN63 := (Nat.le_trans (HC.out.m.isIn _ (List.getElem_mem hk')).cap (HC.out.m.isIn _ (List.getElem_mem hk')).max)
      clear hcell
      have HNO := Lib.hid (HNO.out k hk')
      have HYS : Hid (msgOk ms[k].p = true → ∀ i (hi : i < ms.length), i < k + 1 → msgOk ms[i].p = true) := fun h i hi hik => by
        by_cases e : i = k
        · subst e; exact h
        · exact HI.out i hi (by omega)
      obtain ⟨x, hx⟩ : ∃ x, x = ms[k] := ⟨_, rfl⟩
      simp only at HDL0 HN63 hc0 hc1
      rw [← hx] at hc0 hc1 HNO HYS HDL0 HN63
      clear hx HI hk'
      obtain ⟨⟨da, dlen, dcap, dl⟩, age⟩ := x
      simp only at hc0 hc1 HDL0 HN63
      have HDL := Lib.hid HDL0.out
      clear HDL0
      by_cases r0 : 8 < dlen
      · have HE := Lib.hid (HNO.out (by rw [Bool.eq_false_iff, ne_eq, msgOk_iff]; simp only [RMsg.p, HDL.out]; omega))
        have q00 : decide (8 < dlen) = true := by simp; omega
        have q01 : decide ((8 : Int) < (dlen : Int)) = true := by simp; omega
        go_wp2_with fail
        go_ret
        exact ⟨by rw [HE.out]; rfl, HK.out⟩
      have q00 : decide (8 < dlen) = false := by simp; omega
      have q01 : decide ((8 : Int) < (dlen : Int)) = false := by simp; omega
      by_cases r1 : age < 0
      · have HE := Lib.hid (HNO.out (by rw [Bool.eq_false_iff, ne_eq, msgOk_iff]; simp only [RMsg.p, HDL.out]; omega))
        have q10 : decide (age < 0) = true := by simp; omega
        go_wp2_with fail
        go_ret
        exact ⟨by rw [HE.out]; rfl, HK.out⟩
      have q10 : decide (age < 0) = false := by simp; omega
      by_cases r2 : 255 < age
      · have HE := Lib.hid (HNO.out (by rw [Bool.eq_false_iff, ne_eq, msgOk_iff]; simp only [RMsg.p, HDL.out]; omega))
        have q20 : decide (255 < age) = true := by simp; omega
        go_wp2_with fail
        go_ret
        exact ⟨by rw [HE.out]; rfl, HK.out⟩
      have q20 : decide (255 < age) = false := by simp; omega
      have HE := Lib.hid (HYS.out (by rw [msgOk_iff]; simp only [RMsg.p, HDL.out]; omega))
      go_wp2_with fail
      go_round
      case rel => exact ⟨k + 1, by omega, by go_num, HE⟩
      case measure => simp [intOf]; omega
    · obtain rfl : k = n := by omega
      have HE := Lib.hid (HYES.out HI.out)
      go_wp2_with fail
      go_ret
      exact ⟨by rw [HE.out]; rfl, HK.out⟩
end Go.Proofs.Ytcophhdlcjemeaa
