/- The walks of layer 12, 23: lists of numbers, and of messages, that are the same. -/
import Derived.Test.YtcophhdlcjemeaaC20
import Derived.Test.YtcophhdlcjemeaaK14
namespace Go.Proofs.Ytcophhdlcjemeaa
open Go.RowKit
set_option linter.unusedVariables false
set_option linter.unusedSimpArgs false
set_option maxRecDepth 100000 in
set_option maxHeartbeats 1000000 in
theorem eqInts_any (u v : Value) (zs ys : List Int) (w : World) (hu : Ints w u zs) (hv : Ints w v ys) :
    Calls Try.prog 34 #[u, v] w fun e w' => e = .returned (.bool (decide (zs = ys))) ∧ Keeps w w' := by
  obtain ⟨ua, ucap, rfl, hu1, hu2, hu3⟩ := hu.shape
  obtain ⟨va, vcap, rfl, hv1, hv2, hv3⟩ := hv.shape
  have HU := Lib.hid hu3
  have HV := Lib.hid hv3
  clear hu hv hu3 hv3
  have HNO : Hid (¬ zs.length = ys.length → decide (zs = ys) = false) := Lib.hid (fun h => decide_eq_false (fun e => h (by rw [e])))
  have HBAD : Hid (∀ i, ¬ zs.getD i 0 = ys.getD i 0 → decide (zs = ys) = false) := Lib.hid (fun i h => decide_eq_false (fun e => h (by rw [e])))
  have HYES : Hid (zs.length = ys.length → (∀ i, i < zs.length → zs.getD i 0 = ys.getD i 0) → decide (zs = ys) = true) := Lib.hid (fun h1 h2 => decide_eq_true (List.ext_getElem h1 (fun i hi hj => by
    have := h2 i hi
    simpa [List.getD_eq_getElem?_getD, List.getElem?_eq_getElem hi, List.getElem?_eq_getElem hj] using this)))
  obtain ⟨R, hR⟩ : ∃ R, R = decide (zs = ys) := ⟨_, rfl⟩
  rw [← hR] at HNO HBAD HYES ⊢
  clear hR
  by_cases t0 : zs.length = ys.length
  case neg =>
    have d0 : ((zs.length : Int) != (ys.length : Int)) = true := by rw [bne_iff_ne]; omega
    have d1 : ((zs.length : Int) == (ys.length : Int)) = false := by rw [beq_eq_false_iff_ne]; omega
    have d2 : (zs.length == ys.length) = false := by rw [beq_eq_false_iff_ne]; exact t0
    have d3 : (zs.length != ys.length) = true := by rw [bne_iff_ne]; exact t0
    obtain rfl : R = false := HNO.out t0
    clear t0
    go_enter Try.func34, Try.ntmps34
    go_wp2_with fail
    go_ret
    exact ⟨rfl, Keeps.refl _⟩
  replace HYES := Lib.hid (HYES.out t0)
  have HT := Lib.hid t0
  have d0 : ((zs.length : Int) != (ys.length : Int)) = false := by rw [bne_eq_false_iff_eq]; omega
  have d1 : ((zs.length : Int) == (ys.length : Int)) = true := by rw [beq_iff_eq]; omega
  have d2 : (zs.length == ys.length) = true := by rw [beq_iff_eq]; exact t0
  have d3 : (zs.length != ys.length) = false := by rw [bne_eq_false_iff_eq]; exact t0
  clear t0
  go_enter Try.func34, Try.ntmps34
  go_wp2_with fail
  go_loopw [13] (fun i wr => ∃ k : Nat, k ≤ zs.length ∧ i = .int .i64 k ∧ Hid (∀ i, i < k → zs.getD i 0 = ys.getD i 0) ∧ Hid (Keeps w wr)) (fun i _ => zs.length - (intOf i).toNat)
  case atStart => exact ⟨0, Nat.zero_le _, rfl, Lib.hid (fun i hi => absurd hi (Nat.not_lt_zero _)), Keeps.refl _⟩
  case round =>
    obtain ⟨k, hk, rfl, HI, HK⟩ := hrel
    by_cases hlt : k < zs.length
    · have hlt2 : k < ys.length := by rw [← HT.out]; exact hlt
      obtain ⟨b, off, rfl, hc, hb⟩ := (HU.out.keeps HK.out).i64At (by omega)
      obtain ⟨b', off', rfl, hc', hb'⟩ := (HV.out.keeps HK.out).i64At (by omega)
      have hcell := hc k hlt
      have hcell' := hc' k hlt2
      clear hc hc'
      have HBK := Lib.hid (HBAD.out k)
      have HYS : Hid (zs.getD k 0 = ys.getD k 0 → ∀ i, i < k + 1 → zs.getD i 0 = ys.getD i 0) := Lib.hid (fun h i hi => by
        by_cases e : i = k
        · subst e; exact h
        · exact HI.out i (by omega))
      obtain ⟨y, hy⟩ : ∃ y, y = zs.getD k 0 := ⟨_, rfl⟩
      obtain ⟨z, hz⟩ : ∃ z, z = ys.getD k 0 := ⟨_, rfl⟩
      rw [← hy] at hcell HBK HYS
      rw [← hz] at hcell' HBK HYS
      clear hy hz HI
      by_cases hyz : y = z
      · have HI2 := Lib.hid (HYS.out hyz)
        subst hyz
        clear HYS HBK
        go_wp2_with fail
        go_quiet (fail)
        go_wp2_with fail
        go_roundw
        case rel => exact ⟨k + 1, by omega, by go_num, HI2, HK.out.drewN _⟩
        case measure => simp [intOf]; omega
      · have e1 : (y != z) = true := by rw [bne_iff_ne]; exact hyz
        have e2 : (y == z) = false := by rw [beq_eq_false_iff_ne]; exact hyz
        obtain rfl : R = false := HBK.out hyz
        clear HYS HBK hyz
        go_wp2_with fail
        go_quiet (fail)
        go_wp2_with fail
        go_ret
        exact ⟨rfl, HK.out.drewN _⟩
    · obtain rfl : k = zs.length := by omega
      obtain rfl : R = true := HYES.out HI.out
      go_wp2_with fail
      go_ret
      exact ⟨rfl, HK.out⟩
set_option maxRecDepth 100000 in
set_option maxHeartbeats 1000000 in
theorem sameFn_any (x y : RMsg) (w : World) (hx : x.d.In w) (hy : y.d.In w) : Calls Try.prog 69 #[x.val, y.val] w fun e w' => e = .returned (.bool (sameM x.p y.p)) ∧ Keeps w w' := by
  have HEQ : Hid (∀ w, x.d.In w → y.d.In w → Calls Try.prog 23 #[.slice x.d.a x.d.len x.d.cap, .slice y.d.a y.d.len y.d.cap] w fun e w' => e = .returned (.bool (eqY x.d y.d)) ∧ w' = w) := Lib.hid (fun w h1 h2 => bytesEq_any x.d y.d w h1 h2)
  have HR : Hid (sameM x.p y.p = (decide (x.age = y.age) && eqY x.d y.d)) := Lib.hid (by unfold sameM eqY; rw [Bool.and_comm]; rfl)
  obtain ⟨R, hR⟩ : ∃ R, R = sameM x.p y.p := ⟨_, rfl⟩
  obtain ⟨Q, hQ⟩ : ∃ Q, Q = eqY x.d y.d := ⟨_, rfl⟩
  rw [← hQ] at HEQ
  rw [← hR, ← hQ] at HR
  rw [← hR]
  clear hR hQ
  have HX := Lib.hid hx
  have HY := Lib.hid hy
  clear hx hy
  obtain ⟨⟨da, dlen, dcap, dl⟩, age⟩ := x
  obtain ⟨⟨ga, glen, gcap, gl⟩, age2⟩ := y
  simp only at HR
  have HK := Lib.hid (((Keeps.refl w).alloc (.cells #[.slice da dlen dcap, .int .i64 age] 53)).alloc (.cells #[.slice ga glen gcap, .int .i64 age2] 53))
  show Calls Try.prog 69 #[.agg #[.slice da dlen dcap, .int .i64 age], .agg #[.slice ga glen gcap, .int .i64 age2]] w _
  by_cases t : age = age2
  · rw [decide_eq_true t, Bool.true_and] at HR
    subst t
    go_enter Try.func69, Try.ntmps69
    go_wp2_with fail
    (with_reducible refine (HEQ.out _ (by exact HX.out.keeps HK.out) (by exact HY.out.keeps HK.out)).mono ?_)
    rintro e w1 ⟨rfl, rfl⟩
    go_wp2_with fail
    go_ret
    exact ⟨by rw [HR.out]; rfl, HK.out⟩
  · have e1 : (age == age2) = false := by rw [beq_eq_false_iff_ne]; exact t
    rw [decide_eq_false t, Bool.false_and] at HR
    clear t
    go_enter Try.func69, Try.ntmps69
    go_wp2_with fail
    go_ret
    exact ⟨by rw [HR.out]; rfl, HK.out⟩
set_option maxRecDepth 100000 in
set_option maxHeartbeats 2000000 in
theorem eqMsgs_any (a b : Option Addr) (n m cap cap2 : Nat) (xs ys : List RMsg) (w : World) (hx : RMss w a n cap xs) (hy : RMss w b m cap2 ys) :
    Calls Try.prog 68 #[.slice a n cap, .slice b m cap2, .func (.func 69) #[] #[]] w fun e w' => e = .returned (.bool (decide (xs.map RMsg.p = ys.map RMsg.p))) ∧ Keeps w w' := by
  have eg : ∀ args w, (callFunc 69 args).run Try.prog w = .ok (.enter 69 args) w := enters_of Try.func69 (by kernel_rfl) rfl
  have hxl := hx.len
  have hyl := hy.len
  have hxc := hx.hcap
  have hyc := hy.hcap
  have hxm := hx.hmax
  have hym := hy.hmax
  have HX := Lib.hid hx
  have HY := Lib.hid hy
  clear hx hy
  have HNO : Hid (¬ n = m → decide (xs.map RMsg.p = ys.map RMsg.p) = false) := Lib.hid (fun h => decide_eq_false (fun e => h (by
    have := congrArg List.length e
    simp only [List.length_map] at this
    omega)))
  have HBAD : Hid (∀ i (hi : i < xs.length) (hj : i < ys.length), sameM xs[i].p ys[i].p = false → decide (xs.map RMsg.p = ys.map RMsg.p) = false) := Lib.hid (fun i hi hj h => decide_eq_false (fun e => by
    have h2 := congrArg (fun l : List PMsg => l[i]?) e
    simp only [List.getElem?_map, List.getElem?_eq_getElem hi, List.getElem?_eq_getElem hj, Option.map_some, Option.some.injEq] at h2
    rw [h2, (sameM_iff _ _).2 rfl] at h
    cases h))
  have HYES : Hid (n = m → (∀ i (hi : i < xs.length) (hj : i < ys.length), i < n → sameM xs[i].p ys[i].p = true) → decide (xs.map RMsg.p = ys.map RMsg.p) = true) := Lib.hid (fun h1 h2 => decide_eq_true (List.ext_getElem (by simp only [List.length_map]; omega) (fun i hi hj => by
    simp only [List.length_map] at hi hj
    simp only [List.getElem_map]
    exact (sameM_iff _ _).1 (h2 i hi hj (by omega)))))
  have HXL := Lib.hid hxl
  have HYL := Lib.hid hyl
  clear hxl hyl
  obtain ⟨R, hR⟩ : ∃ R, R = decide (xs.map RMsg.p = ys.map RMsg.p) := ⟨_, rfl⟩
  rw [← hR] at HNO HBAD HYES ⊢
  clear hR
  by_cases t0 : n = m
  case neg =>
    have d0 : ((n : Int) != (m : Int)) = true := by rw [bne_iff_ne]; omega
    have d1 : ((n : Int) == (m : Int)) = false := by rw [beq_eq_false_iff_ne]; omega
    have d2 : (n == m) = false := by rw [beq_eq_false_iff_ne]; exact t0
    have d3 : (n != m) = true := by rw [bne_iff_ne]; exact t0
    obtain rfl : R = false := HNO.out t0
    clear t0
    go_enter Try.func68, Try.ntmps68
    go_wp2_with fail
    go_ret
    exact ⟨rfl, Keeps.refl _⟩
  replace HYES := Lib.hid (HYES.out t0)
  subst t0
  go_enter Try.func68, Try.ntmps68
  go_wp2_with fail
  go_loopw [17] (fun i wr => ∃ k : Nat, k ≤ n ∧ i = .int .i64 k ∧ Hid (∀ i (hi : i < xs.length) (hj : i < ys.length), i < k → sameM xs[i].p ys[i].p = true) ∧ Hid (Keeps w wr)) (fun i _ => n - (intOf i).toNat)
  case atStart => exact ⟨0, Nat.zero_le _, rfl, Lib.hid (fun i hi hj h => absurd h (Nat.not_lt_zero _)), Keeps.refl _⟩
  case round =>
    obtain ⟨k, hk, rfl, HI, HK⟩ := hrel
    by_cases hlt : k < n
    · have hkx : k < xs.length := by rw [HXL.out]; exact hlt
      have hky : k < ys.length := by rw [HYL.out]; exact hlt
      obtain ⟨sb, so, rfl, hcell⟩ := HX.out.addr (show 0 < xs.length by omega)
      obtain ⟨tb, to, rfl, hcell2⟩ := HY.out.addr (show 0 < ys.length by omega)
      obtain ⟨hc0, hc1⟩ := hcell k hkx
      obtain ⟨hd0, hd1⟩ := hcell2 k hky
      replace hc0 := HK.out.later hc0
      replace hc1 := HK.out.later hc1
      replace hd0 := HK.out.later hd0
      replace hd1 := HK.out.later hd1
      have htb : tb < wr.heap.size := World.block_lt_of_cell? _ _ hd0
      have htb2 : ¬ tb = wr.heap.size := by omega
      have HXI := Lib.hid (HX.out.isIn _ (List.getElem_mem hkx))
      have HYI := Lib.hid (HY.out.isIn _ (List.getElem_mem hky))
      have HBK := Lib.hid (HBAD.out k hkx hky)
      have HYS : Hid (sameM xs[k].p ys[k].p = true → ∀ i (hi : i < xs.length) (hj : i < ys.length), i < k + 1 → sameM xs[i].p ys[i].p = true) := Lib.hid (fun h i hi hj hik => by
        by_cases e : i = k
        · subst e; exact h
        · exact HI.out i hi hj (by omega))
      obtain ⟨x, hx⟩ : ∃ x, x = xs[k] := ⟨_, rfl⟩
      obtain ⟨y, hy⟩ : ∃ y, y = ys[k] := ⟨_, rfl⟩
      rw [← hx] at hc0 hc1 HXI HBK HYS
      rw [← hy] at hd0 hd1 HYI HBK HYS
      clear hx hy HI hcell hcell2 hkx hky
      have HCON : Hid (∀ w', Keeps w w' → Calls Try.prog 69 #[x.val, y.val] w' fun e w'' => e = .returned (.bool (sameM x.p y.p)) ∧ Keeps w' w'') := Lib.hid (fun w' hk => sameFn_any x y w' (HXI.out.keeps hk) (HYI.out.keeps hk))
      obtain ⟨Q, hQ⟩ : ∃ Q, Q = sameM x.p y.p := ⟨_, rfl⟩
      rw [← hQ] at HCON HBK HYS
      clear hQ
      obtain ⟨⟨da, dlen, dcap, dl⟩, age⟩ := x
      obtain ⟨⟨ga, glen, gcap, gl⟩, age2⟩ := y
      simp only at hc0 hc1 hd0 hd1
      have HKA := Lib.hid ((HK.out.alloc (.cells #[.slice da dlen dcap, .int .i64 age] 53)).alloc (.cells #[.slice ga glen gcap, .int .i64 age2] 53))
      cases Q
      · obtain rfl : R = false := HBK.out (by first | rfl | trivial)
        go_wp2_with (go_at_fn 69; with_reducible refine (HCON.out _ HKA.out).mono ?_; rintro e w1 ⟨rfl, hk1⟩)
        go_ret
        exact ⟨rfl, HKA.out.trans hk1⟩
      · have HI2 := Lib.hid (HYS.out (by first | rfl | trivial))
        go_wp2_with (go_at_fn 69; with_reducible refine (HCON.out _ HKA.out).mono ?_; rintro e w1 ⟨rfl, hk1⟩)
        go_roundw
        case rel => exact ⟨k + 1, by omega, by go_num, HI2, HKA.out.trans hk1⟩
        case measure => simp [intOf]; omega
    · obtain rfl : k = n := by omega
      obtain rfl : R = true := HYES.out HI.out
      go_wp2_with fail
      go_ret
      exact ⟨rfl, HK.out⟩
end Go.Proofs.Ytcophhdlcjemeaa
