/- The walks of layer 7, 15: lists of numbers, and of truths, that are the same. -/
import Derived.Test.YtmjodcackmjllaaM12
namespace Go.Proofs.Ytmjodcackmjllaa
open Go.RowKit
set_option linter.unusedVariables false
set_option linter.unusedSimpArgs false
set_option maxRecDepth 100000 in
set_option maxHeartbeats 1000000 in
theorem eqInts7_any (u v : Value) (zs ys : List Int) (w : World) (hu : Ints w u zs) (hv : Ints w v ys) :
    Calls Try.prog 40 #[u, v] w fun e w' => e = .returned (.bool (decide (zs = ys))) ∧ Keeps w w' := by
  obtain ⟨ua, ucap, rfl, hu1, hu2, -⟩ := id hu.shape
  obtain ⟨va, vcap, rfl, hv1, hv2, -⟩ := id hv.shape
  have HU := Lib.hid hu
  have HV := Lib.hid hv
  clear hu hv
  have HNO : Hid (¬ zs.length = ys.length → decide (zs = ys) = false) := Lib.hid (fun h => decide_eq_false (fun e => h (by rw [e])))
  have HBAD : Hid (∀ i, ¬ zs.getD i 0 = ys.getD i 0 → decide (zs = ys) = false) := Lib.hid (fun i h => decide_eq_false (fun e => h (by rw [e])))
  have HYES : Hid (zs.length = ys.length → (∀ i, i < zs.length → zs.getD i 0 = ys.getD i 0) → decide (zs = ys) = true) := Lib.hid (fun h1 h2 => decide_eq_true (List.ext_getElem h1 (fun i hi hj => by
    have := h2 i hi
    simpa [List.getD_eq_getElem?_getD, List.getElem?_eq_getElem hi, List.getElem?_eq_getElem hj] using this)))
  obtain ⟨R, hR⟩ : ∃ R, R = decide (zs = ys) := ⟨_, rfl⟩
  rw [← hR] at HNO HBAD HYES ⊢
  clear hR
  by_cases t0 : zs.length = ys.length
  case neg =>
    have d0 : ((zs.length : Int) != (ys.length : Int)) = true := by rw [bne_iff_ne]; omega
    have d1 : ((zs.length : Int) == (ys.length : Int)) = false := by rw [beq_eq_false_iff_ne]; omega
    have d2 : (zs.length == ys.length) = false := by rw [beq_eq_false_iff_ne]; exact t0
    have d3 : (zs.length != ys.length) = true := by rw [bne_iff_ne]; exact t0
    obtain rfl : R = false := HNO.out t0
    clear t0
    go_enter Try.func40, Try.ntmps40
    go_wp2_with fail
    go_ret
    exact ⟨rfl, Keeps.refl _⟩
  replace HYES := Lib.hid (HYES.out t0)
  have HT := Lib.hid t0
  have hle : zs.length ≤ vcap := by rw [t0]; exact hv1
  have d0 : ((zs.length : Int) != (ys.length : Int)) = false := by rw [bne_eq_false_iff_eq]; omega
  have d1 : ((zs.length : Int) == (ys.length : Int)) = true := by rw [beq_iff_eq]; omega
  have d2 : (zs.length == ys.length) = true := by rw [beq_iff_eq]; exact t0
  have d3 : (zs.length != ys.length) = false := by rw [bne_eq_false_iff_eq]; exact t0
  clear t0
  go_enter Try.func40, Try.ntmps40
  go_wp2_with fail
  go_loopw [13] (fun i wr => ∃ k : Nat, k ≤ zs.length ∧ i = .int .i64 k ∧ Hid (∀ i, i < k → zs.getD i 0 = ys.getD i 0) ∧ Hid (Keeps w wr)) (fun i _ => zs.length - (intOf i).toNat)
  case atStart => exact ⟨0, Nat.zero_le _, rfl, Lib.hid (fun i hi => absurd hi (Nat.not_lt_zero _)), Keeps.refl _⟩
  case round =>
    obtain ⟨k, hk, rfl, HI, HK⟩ := hrel
    by_cases hlt : k < zs.length
    · have hlt2 : k < ys.length := by rw [← HT.out]; exact hlt
      obtain ⟨b, off, rfl, hc, hb⟩ := (HU.out.keeps HK.out).shapeAt (by omega)
      obtain ⟨b', off', rfl, hc', hb'⟩ := (HV.out.keeps HK.out).shapeAt (by omega)
      have hcell := hc k hlt
      have hcell' := hc' k hlt2
      clear hc hc'
      have HBK := Lib.hid (HBAD.out k)
      have HYS : Hid (zs.getD k 0 = ys.getD k 0 → ∀ i, i < k + 1 → zs.getD i 0 = ys.getD i 0) := Lib.hid (fun h i hi => by
        by_cases e : i = k
        · subst e; exact h
        · exact HI.out i (by omega))
      obtain ⟨y, hy⟩ : ∃ y, y = zs.getD k 0 := ⟨_, rfl⟩
      obtain ⟨z, hz⟩ : ∃ z, z = ys.getD k 0 := ⟨_, rfl⟩
      rw [← hy] at hcell HBK HYS
      rw [← hz] at hcell' HBK HYS
      clear hy hz HI
      by_cases hyz : y = z
      · have HI2 := Lib.hid (HYS.out hyz)
        subst hyz
        clear HYS HBK
        go_wp2_with fail
        go_quiet (fail)
        go_wp2_with fail
        go_roundw
        case rel => exact ⟨k + 1, by omega, by go_num, HI2, HK.out.drewN _⟩
        case measure => simp [intOf]; omega
      · have e1 : (y != z) = true := by rw [bne_iff_ne]; exact hyz
        have e2 : (y == z) = false := by rw [beq_eq_false_iff_ne]; exact hyz
        obtain rfl : R = false := HBK.out hyz
        clear HYS HBK hyz
        go_wp2_with fail
        go_quiet (fail)
        go_wp2_with fail
        go_ret
        exact ⟨rfl, HK.out.drewN _⟩
    · obtain rfl : k = zs.length := by omega
      obtain rfl : R = true := HYES.out HI.out
      go_wp2_with fail
      go_ret
      exact ⟨rfl, HK.out⟩
set_option maxRecDepth 100000 in
set_option maxHeartbeats 1000000 in
theorem eqBools7_any (u v : Value) (zs ys : List Bool) (w : World) (hu : Bools w u zs) (hv : Bools w v ys) :
    Calls Try.prog 78 #[u, v] w fun e w' => e = .returned (.bool (decide (zs = ys))) ∧ Keeps w w' := by
  obtain ⟨ua, ucap, rfl, hu1, hu2, -⟩ := id hu.shape
  obtain ⟨va, vcap, rfl, hv1, hv2, -⟩ := id hv.shape
  have HU := Lib.hid hu
  have HV := Lib.hid hv
  clear hu hv
  have HNO : Hid (¬ zs.length = ys.length → decide (zs = ys) = false) := Lib.hid (fun h => decide_eq_false (fun e => h (by rw [e])))
  have HBAD : Hid (∀ i, ¬ zs.getD i false = ys.getD i false → decide (zs = ys) = false) := Lib.hid (fun i h => decide_eq_false (fun e => h (by rw [e])))
  have HYES : Hid (zs.length = ys.length → (∀ i, i < zs.length → zs.getD i false = ys.getD i false) → decide (zs = ys) = true) := Lib.hid (fun h1 h2 => decide_eq_true (List.ext_getElem h1 (fun i hi hj => by
    have := h2 i hi
    simpa [List.getD_eq_getElem?_getD, List.getElem?_eq_getElem hi, List.getElem?_eq_getElem hj] using this)))
  obtain ⟨R, hR⟩ : ∃ R, R = decide (zs = ys) := ⟨_, rfl⟩
  rw [← hR] at HNO HBAD HYES ⊢
  clear hR
  by_cases t0 : zs.length = ys.length
  case neg =>
    have d0 : ((zs.length : Int) != (ys.length : Int)) = true := by rw [bne_iff_ne]; omega
    have d1 : ((zs.length : Int) == (ys.length : Int)) = false := by rw [beq_eq_false_iff_ne]; omega
    have d2 : (zs.length == ys.length) = false := by rw [beq_eq_false_iff_ne]; exact t0
    have d3 : (zs.length != ys.length) = true := by rw [bne_iff_ne]; exact t0
    obtain rfl : R = false := HNO.out t0
    clear t0
    go_enter Try.func78, Try.ntmps78
    go_wp2_with fail
    go_ret
    exact ⟨rfl, Keeps.refl _⟩
  replace HYES := Lib.hid (HYES.out t0)
  have HT := Lib.hid t0
  have hle : zs.length ≤ vcap := by rw [t0]; exact hv1
  have d0 : ((zs.length : Int) != (ys.length : Int)) = false := by rw [bne_eq_false_iff_eq]; omega
  have d1 : ((zs.length : Int) == (ys.length : Int)) = true := by rw [beq_iff_eq]; omega
  have d2 : (zs.length == ys.length) = true := by rw [beq_iff_eq]; exact t0
  have d3 : (zs.length != ys.length) = false := by rw [bne_eq_false_iff_eq]; exact t0
  clear t0
  go_enter Try.func78, Try.ntmps78
  go_wp2_with fail
  go_loopw [13] (fun i wr => ∃ k : Nat, k ≤ zs.length ∧ i = .int .i64 k ∧ Hid (∀ i, i < k → zs.getD i false = ys.getD i false) ∧ Hid (Keeps w wr)) (fun i _ => zs.length - (intOf i).toNat)
  case atStart => exact ⟨0, Nat.zero_le _, rfl, Lib.hid (fun i hi => absurd hi (Nat.not_lt_zero _)), Keeps.refl _⟩
  case round =>
    obtain ⟨k, hk, rfl, HI, HK⟩ := hrel
    by_cases hlt : k < zs.length
    · have hlt2 : k < ys.length := by rw [← HT.out]; exact hlt
      obtain ⟨b, off, rfl, hc, hb⟩ := (HU.out.keeps HK.out).boolAt' (by omega)
      obtain ⟨b', off', rfl, hc', hb'⟩ := (HV.out.keeps HK.out).boolAt' (by omega)
      have hcell := hc k hlt
      have hcell' := hc' k hlt2
      clear hc hc'
      have HBK := Lib.hid (HBAD.out k)
      have HYS : Hid (zs.getD k false = ys.getD k false → ∀ i, i < k + 1 → zs.getD i false = ys.getD i false) := Lib.hid (fun h i hi => by
        by_cases e : i = k
        · subst e; exact h
        · exact HI.out i (by omega))
      obtain ⟨y, hy⟩ : ∃ y, y = zs.getD k false := ⟨_, rfl⟩
      obtain ⟨z, hz⟩ : ∃ z, z = ys.getD k false := ⟨_, rfl⟩
      rw [← hy] at hcell HBK HYS
      rw [← hz] at hcell' HBK HYS
      clear hy hz HI
      cases y <;> cases z
      · have HI2 := Lib.hid (HYS.out (by trivial))
        clear HYS HBK
        go_wp2_with fail
        go_quiet (fail)
        go_wp2_with fail
        go_roundw
        case rel => exact ⟨k + 1, by omega, by go_num, HI2, HK.out.drewN _⟩
        case measure => simp [intOf]; omega
      · obtain rfl : R = false := HBK.out (by decide)
        clear HYS HBK
        go_wp2_with fail
        go_quiet (fail)
        go_wp2_with fail
        go_ret
        exact ⟨rfl, HK.out.drewN _⟩
      · obtain rfl : R = false := HBK.out (by decide)
        clear HYS HBK
        go_wp2_with fail
        go_quiet (fail)
        go_wp2_with fail
        go_ret
        exact ⟨rfl, HK.out.drewN _⟩
      · have HI2 := Lib.hid (HYS.out (by trivial))
        clear HYS HBK
        go_wp2_with fail
        go_quiet (fail)
        go_wp2_with fail
        go_roundw
        case rel => exact ⟨k + 1, by omega, by go_num, HI2, HK.out.drewN _⟩
        case measure => simp [intOf]; omega
    · obtain rfl : k = zs.length := by omega
      obtain rfl : R = true := HYES.out HI.out
      go_wp2_with fail
      go_ret
      exact ⟨rfl, HK.out⟩
set_option maxRecDepth 100000 in
set_option maxHeartbeats 1000000 in
theorem sameInts_any (u v : Value) (zs ys : List Int) (w : World) (hu : Ints w u zs) (hv : Ints w v ys) :
    Calls Try.prog 82 #[u, v] w fun e w' => e = .returned (.bool (decide (zs = ys))) ∧ Keeps w w' := by
  obtain ⟨ua, ucap, rfl, hu1, hu2, -⟩ := id hu.shape
  obtain ⟨va, vcap, rfl, hv1, hv2, -⟩ := id hv.shape
  have HU := Lib.hid hu
  have HV := Lib.hid hv
  clear hu hv
  have HNO : Hid (¬ zs.length = ys.length → decide (zs = ys) = false) := Lib.hid (fun h => decide_eq_false (fun e => h (by rw [e])))
  have HBAD : Hid (∀ i, ¬ zs.getD i 0 = ys.getD i 0 → decide (zs = ys) = false) := Lib.hid (fun i h => decide_eq_false (fun e => h (by rw [e])))
  have HYES : Hid (zs.length = ys.length → (∀ i, i < zs.length → zs.getD i 0 = ys.getD i 0) → decide (zs = ys) = true) := Lib.hid (fun h1 h2 => decide_eq_true (List.ext_getElem h1 (fun i hi hj => by
    have := h2 i hi
    simpa [List.getD_eq_getElem?_getD, List.getElem?_eq_getElem hi, List.getElem?_eq_getElem hj] using this)))
  obtain ⟨R, hR⟩ : ∃ R, R = decide (zs = ys) := ⟨_, rfl⟩
  rw [← hR] at HNO HBAD HYES ⊢
  clear hR
  by_cases t0 : zs.length = ys.length
  case neg =>
    have d0 : ((zs.length : Int) != (ys.length : Int)) = true := by rw [bne_iff_ne]; omega
    have d1 : ((zs.length : Int) == (ys.length : Int)) = false := by rw [beq_eq_false_iff_ne]; omega
    have d2 : (zs.length == ys.length) = false := by rw [beq_eq_false_iff_ne]; exact t0
    have d3 : (zs.length != ys.length) = true := by rw [bne_iff_ne]; exact t0
    obtain rfl : R = false := HNO.out t0
    clear t0
    go_enter Try.func82, Try.ntmps82
    go_wp2_with fail
    go_ret
    exact ⟨rfl, Keeps.refl _⟩
  replace HYES := Lib.hid (HYES.out t0)
  have HT := Lib.hid t0
  have hle : zs.length ≤ vcap := by rw [t0]; exact hv1
  have d0 : ((zs.length : Int) != (ys.length : Int)) = false := by rw [bne_eq_false_iff_eq]; omega
  have d1 : ((zs.length : Int) == (ys.length : Int)) = true := by rw [beq_iff_eq]; omega
  have d2 : (zs.length == ys.length) = true := by rw [beq_iff_eq]; exact t0
  have d3 : (zs.length != ys.length) = false := by rw [bne_eq_false_iff_eq]; exact t0
  clear t0
  go_enter Try.func82, Try.ntmps82
  go_wp2_with fail
  go_loopw [5] (fun i wr => ∃ k : Nat, k ≤ zs.length ∧ i = .int .i64 k ∧ Hid (∀ i, i < k → zs.getD i 0 = ys.getD i 0) ∧ Hid (Keeps w wr)) (fun i _ => zs.length - (intOf i).toNat)
  case atStart => exact ⟨0, Nat.zero_le _, rfl, Lib.hid (fun i hi => absurd hi (Nat.not_lt_zero _)), Keeps.refl _⟩
  case round =>
    obtain ⟨k, hk, rfl, HI, HK⟩ := hrel
    by_cases hlt : k < zs.length
    · have hlt2 : k < ys.length := by rw [← HT.out]; exact hlt
      obtain ⟨b, off, rfl, hc, hb⟩ := (HU.out.keeps HK.out).shapeAt (by omega)
      obtain ⟨b', off', rfl, hc', hb'⟩ := (HV.out.keeps HK.out).shapeAt (by omega)
      have hcell := hc k hlt
      have hcell' := hc' k hlt2
      clear hc hc'
      have HBK := Lib.hid (HBAD.out k)
      have HYS : Hid (zs.getD k 0 = ys.getD k 0 → ∀ i, i < k + 1 → zs.getD i 0 = ys.getD i 0) := Lib.hid (fun h i hi => by
        by_cases e : i = k
        · subst e; exact h
        · exact HI.out i (by omega))
      obtain ⟨y, hy⟩ : ∃ y, y = zs.getD k 0 := ⟨_, rfl⟩
      obtain ⟨z, hz⟩ : ∃ z, z = ys.getD k 0 := ⟨_, rfl⟩
      rw [← hy] at hcell HBK HYS
      rw [← hz] at hcell' HBK HYS
      clear hy hz HI
      by_cases hyz : y = z
      · have HI2 := Lib.hid (HYS.out hyz)
        subst hyz
        clear HYS HBK
        go_wp2_with fail
        go_quiet (fail)
        go_wp2_with fail
        go_roundw
        case rel => exact ⟨k + 1, by omega, by go_num, HI2, HK.out.drewN _⟩
        case measure => simp [intOf]; omega
      · have e1 : (y != z) = true := by rw [bne_iff_ne]; exact hyz
        have e2 : (y == z) = false := by rw [beq_eq_false_iff_ne]; exact hyz
        obtain rfl : R = false := HBK.out hyz
        clear HYS HBK hyz
        go_wp2_with fail
        go_quiet (fail)
        go_wp2_with fail
        go_ret
        exact ⟨rfl, HK.out.drewN _⟩
    · obtain rfl : k = zs.length := by omega
      obtain rfl : R = true := HYES.out HI.out
      go_wp2_with fail
      go_ret
      exact ⟨rfl, HK.out⟩
set_option maxRecDepth 100000 in
set_option maxHeartbeats 1000000 in
theorem sameTruths_any (u v : Value) (zs ys : List Bool) (w : World) (hu : Bools w u zs) (hv : Bools w v ys) :
    Calls Try.prog 81 #[u, v] w fun e w' => e = .returned (.bool (decide (zs = ys))) ∧ Keeps w w' := by
  obtain ⟨ua, ucap, rfl, hu1, hu2, -⟩ := id hu.shape
  obtain ⟨va, vcap, rfl, hv1, hv2, -⟩ := id hv.shape
  have HU := Lib.hid hu
  have HV := Lib.hid hv
  clear hu hv
  have HNO : Hid (¬ zs.length = ys.length → decide (zs = ys) = false) := Lib.hid (fun h => decide_eq_false (fun e => h (by rw [e])))
  have HBAD : Hid (∀ i, ¬ zs.getD i false = ys.getD i false → decide (zs = ys) = false) := Lib.hid (fun i h => decide_eq_false (fun e => h (by rw [e])))
  have HYES : Hid (zs.length = ys.length → (∀ i, i < zs.length → zs.getD i false = ys.getD i false) → decide (zs = ys) = true) := Lib.hid (fun h1 h2 => decide_eq_true (List.ext_getElem h1 (fun i hi hj => by
    have := h2 i hi
    simpa [List.getD_eq_getElem?_getD, List.getElem?_eq_getElem hi, List.getElem?_eq_getElem hj] using this)))
  obtain ⟨R, hR⟩ : ∃ R, R = decide (zs = ys) := ⟨_, rfl⟩
  rw [← hR] at HNO HBAD HYES ⊢
  clear hR
  by_cases t0 : zs.length = ys.length
  case neg =>
    have d0 : ((zs.length : Int) != (ys.length : Int)) = true := by rw [bne_iff_ne]; omega
    have d1 : ((zs.length : Int) == (ys.length : Int)) = false := by rw [beq_eq_false_iff_ne]; omega
    have d2 : (zs.length == ys.length) = false := by rw [beq_eq_false_iff_ne]; exact t0
    have d3 : (zs.length != ys.length) = true := by rw [bne_iff_ne]; exact t0
    obtain rfl : R = false := HNO.out t0
    clear t0
    go_enter Try.func81, Try.ntmps81
    go_wp2_with fail
    go_ret
    exact ⟨rfl, Keeps.refl _⟩
  replace HYES := Lib.hid (HYES.out t0)
  have HT := Lib.hid t0
  have hle : zs.length ≤ vcap := by rw [t0]; exact hv1
  have d0 : ((zs.length : Int) != (ys.length : Int)) = false := by rw [bne_eq_false_iff_eq]; omega
  have d1 : ((zs.length : Int) == (ys.length : Int)) = true := by rw [beq_iff_eq]; omega
  have d2 : (zs.length == ys.length) = true := by rw [beq_iff_eq]; exact t0
  have d3 : (zs.length != ys.length) = false := by rw [bne_eq_false_iff_eq]; exact t0
  clear t0
  go_enter Try.func81, Try.ntmps81
  go_wp2_with fail
  go_loopw [5] (fun i wr => ∃ k : Nat, k ≤ zs.length ∧ i = .int .i64 k ∧ Hid (∀ i, i < k → zs.getD i false = ys.getD i false) ∧ Hid (Keeps w wr)) (fun i _ => zs.length - (intOf i).toNat)
  case atStart => exact ⟨0, Nat.zero_le _, rfl, Lib.hid (fun i hi => absurd hi (Nat.not_lt_zero _)), Keeps.refl _⟩
  case round =>
    obtain ⟨k, hk, rfl, HI, HK⟩ := hrel
    by_cases hlt : k < zs.length
    · have hlt2 : k < ys.length := by rw [← HT.out]; exact hlt
      obtain ⟨b, off, rfl, hc, hb⟩ := (HU.out.keeps HK.out).boolAt' (by omega)
      obtain ⟨b', off', rfl, hc', hb'⟩ := (HV.out.keeps HK.out).boolAt' (by omega)
      have hcell := hc k hlt
      have hcell' := hc' k hlt2
      clear hc hc'
      have HBK := Lib.hid (HBAD.out k)
      have HYS : Hid (zs.getD k false = ys.getD k false → ∀ i, i < k + 1 → zs.getD i false = ys.getD i false) := Lib.hid (fun h i hi => by
        by_cases e : i = k
        · subst e; exact h
        · exact HI.out i (by omega))
      obtain ⟨y, hy⟩ : ∃ y, y = zs.getD k false := ⟨_, rfl⟩
      obtain ⟨z, hz⟩ : ∃ z, z = ys.getD k false := ⟨_, rfl⟩
      rw [← hy] at hcell HBK HYS
      rw [← hz] at hcell' HBK HYS
      clear hy hz HI
      cases y <;> cases z
      · have HI2 := Lib.hid (HYS.out (by trivial))
        clear HYS HBK
        go_wp2_with fail
        go_quiet (fail)
        go_wp2_with fail
        go_roundw
        case rel => exact ⟨k + 1, by omega, by go_num, HI2, HK.out.drewN _⟩
        case measure => simp [intOf]; omega
      · obtain rfl : R = false := HBK.out (by decide)
        clear HYS HBK
        go_wp2_with fail
        go_quiet (fail)
        go_wp2_with fail
        go_ret
        exact ⟨rfl, HK.out.drewN _⟩
      · obtain rfl : R = false := HBK.out (by decide)
        clear HYS HBK
        go_wp2_with fail
        go_quiet (fail)
        go_wp2_with fail
        go_ret
        exact ⟨rfl, HK.out.drewN _⟩
      · have HI2 := Lib.hid (HYS.out (by trivial))
        clear HYS HBK
        go_wp2_with fail
        go_quiet (fail)
        go_wp2_with fail
        go_roundw
        case rel => exact ⟨k + 1, by omega, by go_num, HI2, HK.out.drewN _⟩
        case measure => simp [intOf]; omega
    · obtain rfl : k = zs.length := by omega
      obtain rfl : R = true := HYES.out HI.out
      go_wp2_with fail
      go_ret
      exact ⟨rfl, HK.out⟩
end Go.Proofs.Ytmjodcackmjllaa
