/- The walk of ModesOnce. -/
import Derived.Test.YtmjodcackmjllaaD5
import Derived.Test.YtmjodcackmjllaaD8
import Derived.Deep.DeepCutAuto
import Derived.Deep.LoopGhost
namespace Go.Proofs.Ytmjodcackmjllaa
open Go.RowKit Go.Shelf
set_option linter.unusedVariables false
set_option linter.unusedSimpArgs false
attribute [local go_sem ↓ high] eqCS
def csArr (c : CS) : Array Value := #[.int .i64 c.t, .int .i64 c.p, .int .i64 c.m, .int .i64 c.x, .int .i64 c.b]
theorem Keeps.setCell5 {a w : World} {C : Nat} (h : Keeps a w) (hC : a.heap.size ≤ C) (v0 v1 v2 v3 v4 : Value) : Keeps a (((((w.setCell ⟨C, 0, none⟩ v0).setCell ⟨C, 1, none⟩ v1).setCell ⟨C, 2, none⟩ v2).setCell ⟨C, 3, none⟩ v3).setCell ⟨C, 4, none⟩ v4) :=
  ((((h.setCell hC _).setCell hC _).setCell hC _).setCell hC _).setCell hC _
/-- what was asked for is taken -/
structure Once (m : RMedl) (c : CS) (k r : Int) (x : CS) (e : Int) : Prop where
  ok : csErr c m.nodes = 0
  e0 : e = 0
  none : r = 0 → x = c ∧ (c.x = 0 ∨ c.x ≠ 0)
  some : r ≠ 0 → x = ⟨c.t, c.p, c.m, r, c.b⟩ ∧ r = k + 1
  mm : medlOk m = true
  xk : csErr x m.nodes = 0
  nx : x.x ≠ 0 → nextsP m x = []
theorem nextsP_full {m : RMedl} {x : CS} (h : x.x ≠ 0) : nextsP m x = [] := by
  rw [List.eq_nil_iff_forall_not_mem]
  intro j hj
  have h2 := ((mem_nextsP m x j).1 hj).2
  unfold mayP at h2
  rw [decide_eq_false h] at h2
  simp at h2
theorem once_of {m : RMedl} {c : CS} {k : Int} (he : (askR m c k).2 = 0) : Once m c k (askR m c k).1 (takeR m c (askR m c k).1).1 (takeR m c (askR m c k).1).2 := by
  have hb : asksB m c = true := by
    cases hb : asksB m c
    · exfalso
      have h2 := asksB_E2 hb
      unfold askR at he
      rw [hb] at he
      simp only [cond_false] at he
      rw [he] at h2
      cases h2
    · rfl
  have hab : medlOk m = true ∧ stOk m c = true := by unfold asksB at hb; rw [Bool.and_eq_true] at hb; exact hb
  have hst := (stOk_iff m c).1 hab.2
  have hcnt := medlOk_cnt hab.1
  have hmi := (mIn_iff m c.m).1 hst.2.1
  have key : (askR m c k).1 = 0 ∨ ((askR m c k).1 = k + 1 ∧ mayP m c k = true ∧ 0 ≤ k ∧ k < m.xs.length) := by
    unfold askR
    rw [hb]
    simp only [cond_true]
    cases decide (k = -1) || mIn m k
    · left; rfl
    · simp only [cond_true]
      cases decide (k < 0)
      · simp only [cond_false]
        unfold takenP
        rw [hb, Bool.true_and]
        cases hy : mayP m c k
        · left; rfl
        · right
          have hy2 := hy
          unfold mayP at hy2
          rw [Bool.and_eq_true] at hy2
          exact ⟨rfl, rfl, (mIn_iff m k).1 hy2.1⟩
      · left; rfl
  obtain ⟨r, hr⟩ : ∃ r, r = (askR m c k).1 := ⟨_, rfl⟩
  rw [← hr] at key ⊢
  clear hr he
  rcases key with rfl | ⟨rfl, hy, h1, h2⟩
  · have e : takeR m c 0 = (c, 0) := by
      unfold takeR
      rw [hb, decide_eq_true (show (0 : Int) ≤ m.xs.length by omega)]
      rfl
    rw [e]
    exact ⟨hst.1, rfl, fun _ => ⟨rfl, Decidable.em _⟩, fun h => absurd rfl h, hab.1, hst.1, nextsP_full⟩
  · have e : takeR m c (k + 1) = (⟨c.t, c.p, c.m, k + 1, c.b⟩, 0) := by
      unfold takeR
      rw [hb, decide_eq_true (show 0 ≤ k + 1 by omega), decide_eq_true (show k + 1 ≤ (m.xs.length : Int) by omega), decide_eq_true (show 0 < k + 1 by omega), show k + 1 - 1 = k by omega, hy]
      rfl
    rw [e]
    refine ⟨hst.1, rfl, fun h => absurd h (by omega), fun _ => ⟨rfl, rfl⟩, hab.1, ?_, nextsP_full⟩
    obtain ⟨g1, g2⟩ := csErr_ok hst.1
    refine csErr_yes g1 ((csOk_iff _ _).2 ?_)
    obtain ⟨a1, a2, a3, a4, a5, a6, a7, a8, a9, a10⟩ := (csOk_iff c _).1 g2
    exact ⟨a1, a2, a3, a4, a5, a6, by simp only; omega, by simp only; omega, a9, a10⟩
set_option maxRecDepth 100000 in
set_option maxHeartbeats 4000000 in
theorem modesOnce_any (m : RMedl) (c : CS) (k : Int) (w : World) (hm : m.In w) : Calls Try.prog 3 #[m.val, c.val, .int .i64 k] w fun e w' => e = .returned (.bool true) ∧ Keeps w w' := by
  have HM := Lib.hid hm
  clear hm
  have HAK := Lib.hid (askX_any m c k)
  have HTK := Lib.hid (takeX_any m c (askR m c k).1)
  have HNC := Lib.hid (@once_of m c k)
  have HNF : Hid (∀ (c : CS) w, Calls Try.prog 18 #[m.val, c.val] w fun e w' => e = .returned (.func (.func 57) #[] #[.pointer (some ⟨w.heap.size, 0, none⟩), .pointer (some ⟨w.heap.size + 1, 0, none⟩)]) ∧ w' = (w.alloc (.cells #[.int .i64 m.nodes, .int .i64 m.slot, .int .i64 m.gap, .int .i64 m.window, .int .i64 m.drift, .int .i64 m.delay, m.cv, .slice m.ma m.mn m.mc] 25)).alloc (.cells #[.int .i64 c.t, .int .i64 c.p, .int .i64 c.m, .int .i64 c.x, .int .i64 c.b] 27)) := Lib.hid (fun c w => nextsf_any m c w)
  have HTO : Hid (∀ (c : CS) w, m.In w → Calls Try.prog 17 #[.func (.func 57) #[] #[.pointer (some ⟨w.heap.size, 0, none⟩), .pointer (some ⟨w.heap.size + 1, 0, none⟩)], .int .i64 9] ((w.alloc (.cells #[.int .i64 m.nodes, .int .i64 m.slot, .int .i64 m.gap, .int .i64 m.window, .int .i64 m.drift, .int .i64 m.delay, m.cv, .slice m.ma m.mn m.mc] 25)).alloc (.cells #[.int .i64 c.t, .int .i64 c.p, .int .i64 c.m, .int .i64 c.x, .int .i64 c.b] 27)) fun e w' => ∃ v, e = .returned v ∧ Ints w' v (((nextsP m c).take 9).map fun j : Nat => (j : Int)) ∧ Keeps w w') := Lib.hid (fun c w h => nexts_told m c w h 9 9 rfl (by decide))
  obtain ⟨AR, hAR⟩ : ∃ AR, AR = askR m c k := ⟨_, rfl⟩
  rw [← hAR] at HAK HNC HTK
  clear hAR
  obtain ⟨r, e1⟩ := AR
  simp only at HTK HNC
  obtain ⟨TR, hTR⟩ : ∃ TR, TR = takeR m c r := ⟨_, rfl⟩
  rw [← hTR] at HTK HNC
  clear hTR
  obtain ⟨⟨xt, xp, xm, xx, xb⟩, e2⟩ := TR
  obtain ⟨ca, cc, hcv, hc1, hc2, hc3⟩ := HM.out.c.shape
  clear hc3
  have HX := Lib.hid HM.out.m
  obtain ⟨no, sl, ga, wi, dr, de, cv, cs, ma, mn, mc, xs⟩ := m
  obtain ⟨ct, cp, cm, cx, cb⟩ := c
  simp only at hcv hc1 HX HAK HTK HNF HTO HNC
  have hlen := HX.out.len
  have hcap := HX.out.hcap
  have hmax := HX.out.hmax
  subst hlen hcv
  have HK := Lib.hid (((Keeps.refl w).alloc (.cells #[.int .i64 no, .int .i64 sl, .int .i64 ga, .int .i64 wi, .int .i64 dr, .int .i64 de, .slice ca cs.length cc, .slice ma xs.length mc] 25)).alloc (.cells #[.int .i64 ct, .int .i64 cp, .int .i64 cm, .int .i64 cx, .int .i64 cb] 27))
  have HB := Lib.hid ((Box.new w 25 #[.int .i64 no, .int .i64 sl, .int .i64 ga, .int .i64 wi, .int .i64 dr, .int .i64 de, .slice ca cs.length cc, .slice ma xs.length mc]).next (.cells #[.int .i64 ct, .int .i64 cp, .int .i64 cm, .int .i64 cx, .int .i64 cb] 27))
  have hz := Box.new (w.alloc (.cells #[.int .i64 no, .int .i64 sl, .int .i64 ga, .int .i64 wi, .int .i64 dr, .int .i64 de, .slice ca cs.length cc, .slice ma xs.length mc] 25)) 27 #[.int .i64 ct, .int .i64 cp, .int .i64 cm, .int .i64 cx, .int .i64 cb]
  rw [World.size_alloc] at hz
  have HA := Lib.hid hz
  clear hz
  show Calls Try.prog 3 #[.agg #[.int .i64 no, .int .i64 sl, .int .i64 ga, .int .i64 wi, .int .i64 dr, .int .i64 de, .slice ca cs.length cc, .slice ma xs.length mc], .agg #[.int .i64 ct, .int .i64 cp, .int .i64 cm, .int .i64 cx, .int .i64 cb], .int .i64 k] w _
  go_enter Try.func3, Try.ntmps3
  go_wp2_with fail
  (with_reducible refine (HAK.out _ (by exact HM.out.keeps HK.out)).mono ?_)
  rintro e w1 ⟨rfl, hk1⟩
  replace HB := Lib.hid (HB.out.keeps hk1)
  replace HA := Lib.hid (HA.out.keeps hk1)
  replace HK := Lib.hid (HK.out.trans hk1)
  clear hk1
  have m0 := HB.out.cell 0 _ rfl
  have m1 := HB.out.cell 1 _ rfl
  have m2 := HB.out.cell 2 _ rfl
  have m3 := HB.out.cell 3 _ rfl
  have m4 := HB.out.cell 4 _ rfl
  have m5 := HB.out.cell 5 _ rfl
  have m6 := HB.out.cell 6 _ rfl
  have m7 := HB.out.cell 7 _ rfl
  have ml := HB.out.lt
  have c0 := HA.out.cell 0 _ rfl
  have c1 := HA.out.cell 1 _ rfl
  have c2 := HA.out.cell 2 _ rfl
  have c3 := HA.out.cell 3 _ rfl
  have c4 := HA.out.cell 4 _ rfl
  have cl := HA.out.lt
  go_wp2_with fail
  (with_reducible refine (begun10_any _).mono ?_)
  rintro e w2 ⟨rfl, hk1⟩
  replace HB := Lib.hid (HB.out.keeps hk1)
  replace HA := Lib.hid (HA.out.keeps hk1)
  replace HK := Lib.hid (HK.out.trans hk1)
  clear hk1 m0 m1 m2 m3 m4 m5 m6 m7 ml c0 c1 c2 c3 c4 cl
  have m0 := HB.out.cell 0 _ rfl
  have m1 := HB.out.cell 1 _ rfl
  have m2 := HB.out.cell 2 _ rfl
  have m3 := HB.out.cell 3 _ rfl
  have m4 := HB.out.cell 4 _ rfl
  have m5 := HB.out.cell 5 _ rfl
  have m6 := HB.out.cell 6 _ rfl
  have m7 := HB.out.cell 7 _ rfl
  have ml := HB.out.lt
  have c0 := HA.out.cell 0 _ rfl
  have c1 := HA.out.cell 1 _ rfl
  have c2 := HA.out.cell 2 _ rfl
  have c3 := HA.out.cell 3 _ rfl
  have c4 := HA.out.cell 4 _ rfl
  have cl := HA.out.lt
  by_cases he1 : e1 = 0
  case neg =>
    have d1 : (e1 != 0) = true := by rw [bne_iff_ne]; exact he1
    clear he1
    go_wp2_with fail
    (with_reducible refine (begun10_any _).mono ?_)
    rintro e w3 ⟨rfl, hk1⟩
    replace HK := Lib.hid (HK.out.trans hk1)
    clear hk1
    go_wp2_with fail
    go_ret
    exact ⟨rfl, HK.out⟩
  have honce := HNC.out he1
  subst he1
  obtain rfl : e2 = 0 := honce.e0
  have HO := Lib.hid honce
  clear honce HNC
  go_wp2_with fail
  (with_reducible refine (HTK.out _ (by exact HM.out.keeps HK.out)).mono ?_)
  rintro e w4 ⟨rfl, hk1⟩
  have hcw := HA.out.lt
  replace HB := Lib.hid (HB.out.keeps hk1)
  replace HA := Lib.hid (HA.out.keeps hk1)
  replace HK := Lib.hid (HK.out.trans hk1)
  clear hk1 m0 m1 m2 m3 m4 m5 m6 m7 ml c0 c1 c2 c3 c4 cl
  have m0 := HB.out.cell 0 _ rfl
  have m1 := HB.out.cell 1 _ rfl
  have m2 := HB.out.cell 2 _ rfl
  have m3 := HB.out.cell 3 _ rfl
  have m4 := HB.out.cell 4 _ rfl
  have m5 := HB.out.cell 5 _ rfl
  have m6 := HB.out.cell 6 _ rfl
  have m7 := HB.out.cell 7 _ rfl
  have ml := HB.out.lt
  have c0 := HA.out.cell 0 _ rfl
  have c1 := HA.out.cell 1 _ rfl
  have c2 := HA.out.cell 2 _ rfl
  have c3 := HA.out.cell 3 _ rfl
  have c4 := HA.out.cell 4 _ rfl
  have cl := HA.out.lt
  have hXge : w.heap.size + 1 < w4.heap.size := HA.out.lt
  have HXB := Lib.hid (Box.new w4 27 #[.int .i64 xt, .int .i64 xp, .int .i64 xm, .int .i64 xx, .int .i64 xb])
  replace HB := Lib.hid (HB.out.next (.cells #[.int .i64 xt, .int .i64 xp, .int .i64 xm, .int .i64 xx, .int .i64 xb] 27))
  replace HA := Lib.hid (HA.out.next (.cells #[.int .i64 xt, .int .i64 xp, .int .i64 xm, .int .i64 xx, .int .i64 xb] 27))
  replace HK := Lib.hid (HK.out.alloc (.cells #[.int .i64 xt, .int .i64 xp, .int .i64 xm, .int .i64 xx, .int .i64 xb] 27))
  have hss := csSame_self ⟨ct, cp, cm, cx, cb⟩
  clear m0 m1 m2 m3 m4 m5 m6 m7 ml c0 c1 c2 c3 c4 cl hcw
  have m0 := HB.out.cell 0 _ rfl
  have m1 := HB.out.cell 1 _ rfl
  have m2 := HB.out.cell 2 _ rfl
  have m3 := HB.out.cell 3 _ rfl
  have m4 := HB.out.cell 4 _ rfl
  have m5 := HB.out.cell 5 _ rfl
  have m6 := HB.out.cell 6 _ rfl
  have m7 := HB.out.cell 7 _ rfl
  have ml := HB.out.lt
  have c0 := HA.out.cell 0 _ rfl
  have c1 := HA.out.cell 1 _ rfl
  have c2 := HA.out.cell 2 _ rfl
  have c3 := HA.out.cell 3 _ rfl
  have c4 := HA.out.cell 4 _ rfl
  have cl := HA.out.lt
  go_upto_region 5 with fail
  obtain ⟨W, hW⟩ : ∃ W, W = w4.alloc (.cells #[.int .i64 xt, .int .i64 xp, .int .i64 xm, .int .i64 xx, .int .i64 xb] 27) := ⟨_, rfl⟩
  rw [← hW] at HB HA HK HXB m0 m1 m2 m3 m4 m5 m6 m7 ml c0 c1 c2 c3 c4 cl ⊢
  clear hW
  obtain ⟨XX, hXX⟩ : ∃ XX, XX = w4.heap.size := ⟨_, rfl⟩
  rw [← hXX] at HXB hXge ⊢
  clear hXX
  have x0 := HXB.out.cell 0 _ rfl
  have x1 := HXB.out.cell 1 _ rfl
  have x2 := HXB.out.cell 2 _ rfl
  have x3 := HXB.out.cell 3 _ rfl
  have x4 := HXB.out.cell 4 _ rfl
  have xl := HXB.out.lt
  have xf := HXB.out.frozen
  have hr63 : r = 0 ∨ r = k + 1 := by
    by_cases h : r = 0
    · exact .inl h
    · exact .inr (HO.out.some h).2
  have hrx : r ≠ 0 → xx = r := fun h => congrArg CS.x (HO.out.some h).1
  have hxx4 := ((csOk_iff _ _).1 (csErr_ok HO.out.xk).2)
  simp only at hxx4
  go_cut [60] (fun v wx => v = .bool false ∧ wx = W)
  case first =>
    by_cases h0 : r = 0
    · have h1 := (HO.out.none h0).1
      simp only [CS.mk.injEq] at h1
      obtain ⟨rfl, rfl, rfl, rfl, rfl⟩ := h1
      subst h0
      clear hr63 hrx
      go_wp2_with fail
      go_meet
      exact ⟨rfl, rfl⟩
    · have d1 : (r == 0) = false := by rw [beq_eq_false_iff_ne]; exact h0
      have d2 : (r != 0) = true := by rw [bne_iff_ne]; exact h0
      have h1 := hrx h0
      have h2 := (HO.out.some h0).2
      subst h1
      subst h2
      have hw1 : IntKind.i64.wrap (k + 1) = k + 1 := IntWalk.i64_in _ (by omega)
      clear hr63 hrx h0
      go_wp2_with fail
      go_meet
      exact ⟨rfl, rfl⟩
  case rest =>
    obtain ⟨rfl, rfl⟩ := hcut
    have hck := ((csOk_iff _ _).1 (csErr_ok HO.out.ok).2)
    simp only at hck
    have hcp : 0 ≤ cp ∧ cp < 8 := by
      have := (csN_iff _).1 (csErr_ok HO.out.ok).1
      simp only at this
      omega
    obtain ⟨p, rfl⟩ : ∃ p : Nat, cp = p := ⟨cp.toNat, by omega⟩
    clear hr63
    go_wp2_with fail
    have hxe : xt = ct ∧ xp = (p : Int) ∧ xm = cm ∧ xb = cb := by
      by_cases h : r = 0
      · have h1 := (HO.out.none h).1
        simp only [CS.mk.injEq] at h1
        exact ⟨h1.1, h1.2.1, h1.2.2.1, h1.2.2.2.2⟩
      · have h1 := (HO.out.some h).1
        simp only [CS.mk.injEq] at h1
        exact ⟨h1.1, h1.2.1, h1.2.2.1, h1.2.2.2.2⟩
    have HXE := Lib.hid hxe
    have HXK : Hid (csErr ⟨xt, xp, xm, xx, xb⟩ no = 0) := Lib.hid HO.out.xk
    have HNX : Hid (xx ≠ 0 → nextsP ⟨no, sl, ga, wi, dr, de, .slice ca cs.length cc, cs, ma, xs.length, mc, xs⟩ ⟨xt, xp, xm, xx, xb⟩ = []) := Lib.hid HO.out.nx
    have HXX4 := Lib.hid hxx4
    clear hxe hxx4 hck hrx HO
    go_loopw [63] (fun i wr => ∃ j : Nat, j ≤ p ∧ i = .int .i64 j ∧ Hid (Box wr w.heap.size 25 #[.int .i64 no, .int .i64 sl, .int .i64 ga, .int .i64 wi, .int .i64 dr, .int .i64 de, .slice ca cs.length cc, .slice ma xs.length mc]) ∧ Hid (Box wr (w.heap.size + 1) 27 #[.int .i64 ct, .int .i64 (p : Int), .int .i64 cm, .int .i64 cx, .int .i64 cb]) ∧ Hid (Box wr XX 27 #[.int .i64 xt, .int .i64 xp, .int .i64 xm, .int .i64 xx, .int .i64 xb]) ∧ Hid (Keeps w wr)) (fun i _ => p - (intOf i).toNat)
    case atStart => exact ⟨0, Nat.zero_le _, rfl, HB, HA, HXB, HK⟩
    case round =>
      clear HB HA HXB HK m0 m1 m2 m3 m4 m5 m6 m7 ml c0 c1 c2 c3 c4 cl x0 x1 x2 x3 x4 xl xf
      obtain ⟨j, hj, rfl, HB, HA, HXB, HK⟩ := hrel
      have m0 := HB.out.cell 0 _ rfl
      have m1 := HB.out.cell 1 _ rfl
      have m2 := HB.out.cell 2 _ rfl
      have m3 := HB.out.cell 3 _ rfl
      have m4 := HB.out.cell 4 _ rfl
      have m5 := HB.out.cell 5 _ rfl
      have m6 := HB.out.cell 6 _ rfl
      have m7 := HB.out.cell 7 _ rfl
      have ml := HB.out.lt
      have c0 := HA.out.cell 0 _ rfl
      have c1 := HA.out.cell 1 _ rfl
      have c2 := HA.out.cell 2 _ rfl
      have c3 := HA.out.cell 3 _ rfl
      have c4 := HA.out.cell 4 _ rfl
      have cl := HA.out.lt
      have x0 := HXB.out.cell 0 _ rfl
      have x1 := HXB.out.cell 1 _ rfl
      have x2 := HXB.out.cell 2 _ rfl
      have x3 := HXB.out.cell 3 _ rfl
      have x4 := HXB.out.cell 4 _ rfl
      have xl := HXB.out.lt
      have xf := HXB.out.frozen
      by_cases hlt : j < p
      · by_cases hx0 : xx = 0
        · have d1 : (xx != 0) = false := by rw [bne_eq_false_iff_eq]; exact hx0
          clear hx0
          go_wp2_with fail
          go_roundw
          case rel => exact ⟨j + 1, by omega, by go_num, HB, HA, HXB, HK⟩
          case measure => simp [intOf]; omega
        · have d1 : (xx != 0) = true := by rw [bne_iff_ne]; exact hx0
          have hnx := HNX.out hx0
          clear hx0
          go_wp2_with fail
          (with_reducible refine (HNF.out ⟨xt, xp, xm, xx, xb⟩ _).mono ?_)
          rintro e w5 ⟨rfl, rfl⟩
          go_wp2_with fail
          (with_reducible refine (HTO.out ⟨xt, xp, xm, xx, xb⟩ _ (by exact HM.out.keeps HK.out)).mono ?_)
          rw [hnx]
          rintro e w5 ⟨v, rfl, hv, hk1⟩
          obtain ⟨va, vc, rfl, -, -, -⟩ := hv.shape
          clear hv hnx
          replace HB := Lib.hid (HB.out.keeps hk1)
          replace HA := Lib.hid (HA.out.keeps hk1)
          replace HXB := Lib.hid (HXB.out.keeps hk1)
          replace HK := Lib.hid (HK.out.trans hk1)
          clear hk1 m0 m1 m2 m3 m4 m5 m6 m7 ml c0 c1 c2 c3 c4 cl x0 x1 x2 x3 x4 xl xf
          simp only [List.take_nil, List.map_nil, List.length_nil]
          go_wp2_with fail
          go_roundw
          case rel => exact ⟨j + 1, by omega, by go_num, HB, HA, HXB, HK⟩
          case measure => simp [intOf]; omega
      · obtain rfl : j = p := by omega
        clear hlt hj
        have hjn : (j : Int) < no := by
          have h1 := HXX4.out
          have h2 := HXE.out
          omega
        go_wp2_with fail
        go_loopg [12] ((no - j).toNat) (fun g v wr => ∃ kk : Nat, (j : Int) + kk + g = no ∧ Hid (Box wr w.heap.size 25 #[.int .i64 no, .int .i64 sl, .int .i64 ga, .int .i64 wi, .int .i64 dr, .int .i64 de, .slice ca cs.length cc, .slice ma xs.length mc]) ∧ Hid (Box wr (w.heap.size + 1) 27 #[.int .i64 ct, .int .i64 (j : Int), .int .i64 cm, .int .i64 cx, .int .i64 cb]) ∧ Hid (Box wr XX 27 (csArr (csRun ⟨xt, xp, xm, xx, xb⟩ no kk))) ∧ Hid (Keeps w wr))
        case atStart => exact ⟨0, by omega, HB, HA, Lib.hid (by rw [csRun_zero HXK.out]; exact HXB.out), HK⟩
        case round =>
          clear HB HA HXB HK m0 m1 m2 m3 m4 m5 m6 m7 ml c0 c1 c2 c3 c4 cl x0 x1 x2 x3 x4 xl xf HNX HNF HTO
          obtain ⟨kk, hkk, HB, HA, HXB, HK⟩ := hrel
          have HRU : Hid (csRun ⟨xt, xp, xm, xx, xb⟩ no kk = if xp + kk < no then ⟨xt, xp + kk, xm, xx, xb⟩ else ⟨(xt + 1) % 256, 0, (if xx = 0 then xm else xx - 1), 0, xb⟩) := Lib.hid rfl
          have HST : Hid (xp + kk < no → ∀ w, Calls Try.prog 19 #[CS.val (csRun ⟨xt, xp, xm, xx, xb⟩ no kk), .int .i64 no] w fun e w' => e = .returned (.tuple #[CS.val (csRun ⟨xt, xp, xm, xx, xb⟩ no (kk + 1)), .int .i64 0]) ∧ Keeps w w') := Lib.hid (fun h w => by
            have h2 := rcstep_any (csRun ⟨xt, xp, xm, xx, xb⟩ no kk) no w
            rw [csRun_step HXK.out kk h] at h2
            exact h2)
          have hxp := HXE.out.2.1
          by_cases hend : gk = 0
          · have h1 : ¬ xp + (kk : Int) < no := by omega
            rw [if_neg h1] at HRU
            rw [HRU.out] at HXB
            have hne : ((xt + 1) % 256 == ct) = false := by
              have h2 := HXX4.out
              have h3 := HXE.out.1
              rw [beq_eq_false_iff_ne]
              omega
            obtain ⟨ut, hut⟩ : ∃ ut, ut = (xt + 1) % 256 := ⟨_, rfl⟩
            rw [← hut] at HXB hne
            obtain ⟨um, hum⟩ : ∃ um, um = (if xx = 0 then xm else xx - 1) := ⟨_, rfl⟩
            rw [← hum] at HXB
            replace HXB : Hid (Box wr XX 27 #[.int .i64 ut, .int .i64 0, .int .i64 um, .int .i64 0, .int .i64 xb]) := HXB
            have m0 := HB.out.cell 0 _ rfl
            have m1 := HB.out.cell 1 _ rfl
            have m2 := HB.out.cell 2 _ rfl
            have m3 := HB.out.cell 3 _ rfl
            have m4 := HB.out.cell 4 _ rfl
            have m5 := HB.out.cell 5 _ rfl
            have m6 := HB.out.cell 6 _ rfl
            have m7 := HB.out.cell 7 _ rfl
            have ml := HB.out.lt
            have c0 := HA.out.cell 0 _ rfl
            have c1 := HA.out.cell 1 _ rfl
            have c2 := HA.out.cell 2 _ rfl
            have c3 := HA.out.cell 3 _ rfl
            have c4 := HA.out.cell 4 _ rfl
            have cl := HA.out.lt
            have x0 := HXB.out.cell 0 _ rfl
            have x1 := HXB.out.cell 1 _ rfl
            have x2 := HXB.out.cell 2 _ rfl
            have x3 := HXB.out.cell 3 _ rfl
            have x4 := HXB.out.cell 4 _ rfl
            have xl := HXB.out.lt
            have xf := HXB.out.frozen
            by_cases hx0 : xx = 0
            · have d1 : (xx == 0) = true := by rw [beq_iff_eq]; exact hx0
              have d2 : (um == cm) = true := by rw [beq_iff_eq, hum, if_pos hx0]; exact HXE.out.2.2.1
              clear hx0 hum hut h1 hkk hxp hend
              go_wp2_with fail
              go_ret
              exact ⟨rfl, HK.out⟩
            · have d1 : (xx == 0) = false := by rw [beq_eq_false_iff_ne]; exact hx0
              have d3 : (xx != 0) = true := by rw [bne_iff_ne]; exact hx0
              have hw1 : IntKind.i64.wrap (xx - 1) = xx - 1 := by
                have h2 := HXX4.out
                exact IntWalk.i64_in _ (by omega)
              have d2 : (um == xx - 1) = true := by rw [beq_iff_eq, hum, if_neg hx0]
              clear hx0 hum hut h1 hkk hxp hend
              go_wp2_with fail
              go_ret
              exact ⟨rfl, HK.out⟩
          · have h1 : xp + (kk : Int) < no := by omega
            have HST2 := Lib.hid (HST.out h1)
            have hcond : ((xp + (kk : Int) != 0) = true) ∨ ((xp + (kk : Int) != 0) = false ∧ (xt == ct) = true) := by
              by_cases h : xp + (kk : Int) = 0
              · exact .inr ⟨by rw [bne_eq_false_iff_eq]; exact h, by rw [beq_iff_eq]; exact HXE.out.1⟩
              · exact .inl (by rw [bne_iff_ne]; exact h)
            rw [if_pos h1] at HRU
            rw [HRU.out] at HXB HST2
            clear HRU HST
            obtain ⟨up, hup⟩ : ∃ up, up = xp + (kk : Int) := ⟨_, rfl⟩
            rw [← hup] at HXB hcond HST2
            obtain ⟨v, hv⟩ : ∃ v, v = csRun ⟨xt, xp, xm, xx, xb⟩ no (kk + 1) := ⟨_, rfl⟩
            rw [← hv] at HST2
            have HV := Lib.hid hv
            clear hup h1 hv
            obtain ⟨vt, vp, vm, vx, vb⟩ := v
            replace HXB : Hid (Box wr XX 27 #[.int .i64 xt, .int .i64 up, .int .i64 xm, .int .i64 xx, .int .i64 xb]) := HXB
            have hkk2 : (j : Int) + ((kk + 1 : Nat) : Int) + ((gk - 1 : Nat) : Int) = no := by omega
            have hgk : gk - 1 < gk := by omega
            clear hkk hend hxp
            have m0 := HB.out.cell 0 _ rfl
            have m1 := HB.out.cell 1 _ rfl
            have m2 := HB.out.cell 2 _ rfl
            have m3 := HB.out.cell 3 _ rfl
            have m4 := HB.out.cell 4 _ rfl
            have m5 := HB.out.cell 5 _ rfl
            have m6 := HB.out.cell 6 _ rfl
            have m7 := HB.out.cell 7 _ rfl
            have ml := HB.out.lt
            have c0 := HA.out.cell 0 _ rfl
            have c1 := HA.out.cell 1 _ rfl
            have c2 := HA.out.cell 2 _ rfl
            have c3 := HA.out.cell 3 _ rfl
            have c4 := HA.out.cell 4 _ rfl
            have cl := HA.out.lt
            have x0 := HXB.out.cell 0 _ rfl
            have x1 := HXB.out.cell 1 _ rfl
            have x2 := HXB.out.cell 2 _ rfl
            have x3 := HXB.out.cell 3 _ rfl
            have x4 := HXB.out.cell 4 _ rfl
            have xl := HXB.out.lt
            have xf := HXB.out.frozen
            rcases hcond with d1 | ⟨d1, d2⟩
            · skip
              go_wp2_with fail
              (with_reducible refine (HST2.out _).mono ?_)
              rintro e w6 ⟨rfl, hk1⟩
              replace HB := Lib.hid (HB.out.keeps hk1)
              replace HA := Lib.hid (HA.out.keeps hk1)
              replace HXB := Lib.hid (HXB.out.keeps hk1)
              replace HK := Lib.hid (HK.out.trans hk1)
              clear hk1 m0 m1 m2 m3 m4 m5 m6 m7 ml c0 c1 c2 c3 c4 cl x0 x1 x2 x3 x4 xl xf
              have HYB := Lib.hid (Box.new w6 27 #[.int .i64 vt, .int .i64 vp, .int .i64 vm, .int .i64 vx, .int .i64 vb])
              replace HB := Lib.hid (HB.out.next (.cells #[.int .i64 vt, .int .i64 vp, .int .i64 vm, .int .i64 vx, .int .i64 vb] 27))
              replace HA := Lib.hid (HA.out.next (.cells #[.int .i64 vt, .int .i64 vp, .int .i64 vm, .int .i64 vx, .int .i64 vb] 27))
              replace HXB := Lib.hid (HXB.out.next (.cells #[.int .i64 vt, .int .i64 vp, .int .i64 vm, .int .i64 vx, .int .i64 vb] 27))
              replace HK := Lib.hid (HK.out.alloc (.cells #[.int .i64 vt, .int .i64 vp, .int .i64 vm, .int .i64 vx, .int .i64 vb] 27))
              have m0 := HB.out.cell 0 _ rfl
              have m1 := HB.out.cell 1 _ rfl
              have m2 := HB.out.cell 2 _ rfl
              have m3 := HB.out.cell 3 _ rfl
              have m4 := HB.out.cell 4 _ rfl
              have m5 := HB.out.cell 5 _ rfl
              have m6 := HB.out.cell 6 _ rfl
              have m7 := HB.out.cell 7 _ rfl
              have ml := HB.out.lt
              have c0 := HA.out.cell 0 _ rfl
              have c1 := HA.out.cell 1 _ rfl
              have c2 := HA.out.cell 2 _ rfl
              have c3 := HA.out.cell 3 _ rfl
              have c4 := HA.out.cell 4 _ rfl
              have cl := HA.out.lt
              have x0 := HXB.out.cell 0 _ rfl
              have x1 := HXB.out.cell 1 _ rfl
              have x2 := HXB.out.cell 2 _ rfl
              have x3 := HXB.out.cell 3 _ rfl
              have x4 := HXB.out.cell 4 _ rfl
              have xl := HXB.out.lt
              have xf := HXB.out.frozen
              have y0 := HYB.out.cell 0 _ rfl
              have y1 := HYB.out.cell 1 _ rfl
              have y2 := HYB.out.cell 2 _ rfl
              have y3 := HYB.out.cell 3 _ rfl
              have y4 := HYB.out.cell 4 _ rfl
              have yl := HYB.out.lt
              have yf := HYB.out.frozen
              go_wp2_with fail
              go_roundg (gk - 1)
              case measure => exact hgk
              case rel => exact ⟨kk + 1, hkk2, Lib.hid (((((HB.out.keepsBut (KeepsBut.setCell _ XX 0 (.int .i64 vt)) (by omega)).keepsBut (KeepsBut.setCell _ XX 1 (.int .i64 vp)) (by omega)).keepsBut (KeepsBut.setCell _ XX 2 (.int .i64 vm)) (by omega)).keepsBut (KeepsBut.setCell _ XX 3 (.int .i64 vx)) (by omega)).keepsBut (KeepsBut.setCell _ XX 4 (.int .i64 vb)) (by omega)), Lib.hid (((((HA.out.keepsBut (KeepsBut.setCell _ XX 0 (.int .i64 vt)) (by omega)).keepsBut (KeepsBut.setCell _ XX 1 (.int .i64 vp)) (by omega)).keepsBut (KeepsBut.setCell _ XX 2 (.int .i64 vm)) (by omega)).keepsBut (KeepsBut.setCell _ XX 3 (.int .i64 vx)) (by omega)).keepsBut (KeepsBut.setCell _ XX 4 (.int .i64 vb)) (by omega)), Lib.hid (by rw [← HV.out]; exact Box.putM (Box.putM (Box.putM (Box.putM (Box.putM HXB.out 0 _) 1 _) 2 _) 3 _) 4 _), Lib.hid (HK.out.setCell5 (by omega) (.int .i64 vt) (.int .i64 vp) (.int .i64 vm) (.int .i64 vx) (.int .i64 vb))⟩
            · skip
              go_wp2_with fail
              (with_reducible refine (HST2.out _).mono ?_)
              rintro e w6 ⟨rfl, hk1⟩
              replace HB := Lib.hid (HB.out.keeps hk1)
              replace HA := Lib.hid (HA.out.keeps hk1)
              replace HXB := Lib.hid (HXB.out.keeps hk1)
              replace HK := Lib.hid (HK.out.trans hk1)
              clear hk1 m0 m1 m2 m3 m4 m5 m6 m7 ml c0 c1 c2 c3 c4 cl x0 x1 x2 x3 x4 xl xf
              have HYB := Lib.hid (Box.new w6 27 #[.int .i64 vt, .int .i64 vp, .int .i64 vm, .int .i64 vx, .int .i64 vb])
              replace HB := Lib.hid (HB.out.next (.cells #[.int .i64 vt, .int .i64 vp, .int .i64 vm, .int .i64 vx, .int .i64 vb] 27))
              replace HA := Lib.hid (HA.out.next (.cells #[.int .i64 vt, .int .i64 vp, .int .i64 vm, .int .i64 vx, .int .i64 vb] 27))
              replace HXB := Lib.hid (HXB.out.next (.cells #[.int .i64 vt, .int .i64 vp, .int .i64 vm, .int .i64 vx, .int .i64 vb] 27))
              replace HK := Lib.hid (HK.out.alloc (.cells #[.int .i64 vt, .int .i64 vp, .int .i64 vm, .int .i64 vx, .int .i64 vb] 27))
              have m0 := HB.out.cell 0 _ rfl
              have m1 := HB.out.cell 1 _ rfl
              have m2 := HB.out.cell 2 _ rfl
              have m3 := HB.out.cell 3 _ rfl
              have m4 := HB.out.cell 4 _ rfl
              have m5 := HB.out.cell 5 _ rfl
              have m6 := HB.out.cell 6 _ rfl
              have m7 := HB.out.cell 7 _ rfl
              have ml := HB.out.lt
              have c0 := HA.out.cell 0 _ rfl
              have c1 := HA.out.cell 1 _ rfl
              have c2 := HA.out.cell 2 _ rfl
              have c3 := HA.out.cell 3 _ rfl
              have c4 := HA.out.cell 4 _ rfl
              have cl := HA.out.lt
              have x0 := HXB.out.cell 0 _ rfl
              have x1 := HXB.out.cell 1 _ rfl
              have x2 := HXB.out.cell 2 _ rfl
              have x3 := HXB.out.cell 3 _ rfl
              have x4 := HXB.out.cell 4 _ rfl
              have xl := HXB.out.lt
              have xf := HXB.out.frozen
              have y0 := HYB.out.cell 0 _ rfl
              have y1 := HYB.out.cell 1 _ rfl
              have y2 := HYB.out.cell 2 _ rfl
              have y3 := HYB.out.cell 3 _ rfl
              have y4 := HYB.out.cell 4 _ rfl
              have yl := HYB.out.lt
              have yf := HYB.out.frozen
              go_wp2_with fail
              go_roundg (gk - 1)
              case measure => exact hgk
              case rel => exact ⟨kk + 1, hkk2, Lib.hid (((((HB.out.keepsBut (KeepsBut.setCell _ XX 0 (.int .i64 vt)) (by omega)).keepsBut (KeepsBut.setCell _ XX 1 (.int .i64 vp)) (by omega)).keepsBut (KeepsBut.setCell _ XX 2 (.int .i64 vm)) (by omega)).keepsBut (KeepsBut.setCell _ XX 3 (.int .i64 vx)) (by omega)).keepsBut (KeepsBut.setCell _ XX 4 (.int .i64 vb)) (by omega)), Lib.hid (((((HA.out.keepsBut (KeepsBut.setCell _ XX 0 (.int .i64 vt)) (by omega)).keepsBut (KeepsBut.setCell _ XX 1 (.int .i64 vp)) (by omega)).keepsBut (KeepsBut.setCell _ XX 2 (.int .i64 vm)) (by omega)).keepsBut (KeepsBut.setCell _ XX 3 (.int .i64 vx)) (by omega)).keepsBut (KeepsBut.setCell _ XX 4 (.int .i64 vb)) (by omega)), Lib.hid (by rw [← HV.out]; exact Box.putM (Box.putM (Box.putM (Box.putM (Box.putM HXB.out 0 _) 1 _) 2 _) 3 _) 4 _), Lib.hid (HK.out.setCell5 (by omega) (.int .i64 vt) (.int .i64 vp) (.int .i64 vm) (.int .i64 vx) (.int .i64 vb))⟩
end Go.Proofs.Ytmjodcackmjllaa
