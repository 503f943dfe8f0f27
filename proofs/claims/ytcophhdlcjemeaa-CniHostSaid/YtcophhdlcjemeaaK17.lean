/- The walks of layer 12, 17: the reference's Deliver. -/
import Derived.Test.YtcophhdlcjemeaaK15
import Derived.Test.YtcophhdlcjemeaaK11
namespace Go.Proofs.Ytcophhdlcjemeaa
open Go.RowKit
set_option linter.unusedVariables false
set_option linter.unusedSimpArgs false
set_option maxRecDepth 100000 in
set_option maxHeartbeats 4000000 in
theorem rdeliver_any (c : RCni) (slot : Int) (d : RY) (w : World) (hc : c.In w) (hd : d.In w) : Calls Try.prog 29 #[c.val, .int .i64 slot, .slice d.a d.len d.cap] w (CniPost (delivP c.p slot d.l) (delivE c.p slot d.l) w) := by
  have HD := Lib.hid hd
  have hdl := hd.row.1
  have hd63 := Nat.le_trans hd.cap hd.max
  have hcm := Nat.le_trans hc.m.hcap hc.m.hmax
  clear hd
  have HML : Hid (c.p.ms.length = c.n) := Lib.hid (by rw [← hc.m.len]; simp [RCni.p])
  have HSB : Hid (betw slot 0 ((c.p.ms.length : Int) - 1) = betw slot 0 ((c.n : Int) - 1)) := Lib.hid (by rw [HML.out])
  have HCH : Hid (∀ w, c.In w → Calls Try.prog 33 #[c.val] w fun e w' => e = .returned (.int .i64 (cond (cniOk c.p) 0 120)) ∧ Keeps w w') := Lib.hid (rccheck_any c)
  have HCL : Hid (cniOk c.p = true → ∀ w, c.In w → Calls Try.prog 27 #[c.val] w (ClonePost (ownP c.p) w)) := Lib.hid (fun h w hc => by
    have h2 := clone12_any c w hc (reach12_ok hc h)
    have h3 : ownP c.p = c.p := by unfold ownP; rw [h]; rfl
    rw [h3]; exact h2)
  have HOK := Lib.hid (fun h => (cniOk_iff c.p).1 h)
  have HQ : Hid (ownP c.p = cond (cniOk c.p) c.p PCni.zero) := Lib.hid rfl
  have HP : Hid (delivP c.p slot d.l = cond (cniOk c.p) (cond (betw slot 0 ((c.p.ms.length : Int) - 1)) (cond (decide (d.l.length ≤ 8)) { ownP c.p with ms := (ownP c.p).ms.set slot.toNat (d.l, 0) } PCni.zero) PCni.zero) PCni.zero) := Lib.hid (by unfold delivP ownP; cases cniOk c.p <;> rfl)
  have HE : Hid (delivE c.p slot d.l = cond (cniOk c.p) (cond (betw slot 0 ((c.p.ms.length : Int) - 1)) (cond (decide (d.l.length ≤ 8)) 0 3) 2) 120) := Lib.hid (by unfold delivE; cases cniOk c.p <;> rfl)
  obtain ⟨P, hP⟩ : ∃ P, P = delivP c.p slot d.l := ⟨_, rfl⟩
  obtain ⟨E, hE⟩ : ∃ E, E = delivE c.p slot d.l := ⟨_, rfl⟩
  obtain ⟨Q, hQ⟩ : ∃ Q, Q = ownP c.p := ⟨_, rfl⟩
  obtain ⟨O, hO⟩ : ∃ O, O = cniOk c.p := ⟨_, rfl⟩
  rw [← hO, ← hQ] at HCL
  rw [← hO] at HCH
  rw [← hO, ← hQ] at HQ
  rw [← hO] at HOK
  rw [← hP, ← hO, ← hQ] at HP
  rw [← hE, ← hO] at HE
  rw [← hP, ← hE]
  clear hP hE hQ hO
  rw [hdl, HSB.out] at HP HE
  clear HSB
  obtain ⟨da, dlen, dcap, dl⟩ := d
  simp only at hdl hd63 HP HE HD
  clear hdl
  have HC := Lib.hid hc
  clear hc
  obtain ⟨id, ⟨oa, olen, ocap, ol⟩, ia, n, cap, ms, life, want⟩ := c
  have HK := Lib.hid (((Keeps.refl w).alloc (.cells #[.int .i64 id, .slice oa olen ocap, .slice ia n cap, .int .i64 life, .int .i64 want] 39)).alloc (.cells #[.int .i64 0, .slice none 0 0, .slice none 0 0, .int .i64 0, .int .i64 0] 39))
  have HB := Lib.hid ((Box.new w 39 #[.int .i64 id, .slice oa olen ocap, .slice ia n cap, .int .i64 life, .int .i64 want]).next (.cells #[.int .i64 0, .slice none 0 0, .slice none 0 0, .int .i64 0, .int .i64 0] 39))
  have hz := Box.new (w.alloc (.cells #[.int .i64 id, .slice oa olen ocap, .slice ia n cap, .int .i64 life, .int .i64 want] 39)) 39 #[.int .i64 0, .slice none 0 0, .slice none 0 0, .int .i64 0, .int .i64 0]
  rw [World.size_alloc] at hz
  have HZ := Lib.hid hz
  clear hz
  show Calls Try.prog 29 #[.agg #[.int .i64 id, .slice oa olen ocap, .slice ia n cap, .int .i64 life, .int .i64 want], .int .i64 slot, .slice da dlen dcap] w _
  simp only at hcm HML HP HE
  have HBN : Hid (¬ (0 ≤ slot ∧ slot ≤ (n : Int) - 1) → betw slot 0 ((n : Int) - 1) = false) := Lib.hid betw_no
  have HBY : Hid (0 ≤ slot ∧ slot ≤ (n : Int) - 1 → betw slot 0 ((n : Int) - 1) = true) := Lib.hid (betw_iff _ _ _).2
  obtain ⟨B, hB⟩ : ∃ B, B = betw slot 0 ((n : Int) - 1) := ⟨_, rfl⟩
  rw [← hB] at HP HE HBN HBY
  clear hB
  by_cases t0 : slot < 0
  case pos =>
    have d0 : decide (slot < 0) = true := decide_eq_true t0
    obtain rfl : B = false := HBN.out (by omega)
    go_enter Try.func29, Try.ntmps29
    go_wp2_with fail
    (with_reducible refine (HCH.out _ (by exact HC.out.keeps HK.out)).mono ?_)
    rintro e w1 ⟨rfl, hk1⟩
    replace HB := Lib.hid (HB.out.keeps hk1)
    replace HZ := Lib.hid (HZ.out.keeps hk1)
    replace HK := Lib.hid (HK.out.trans hk1)
    clear hk1
    have z0 := HZ.out.cell 0 _ rfl
    have z1 := HZ.out.cell 1 _ rfl
    have z2 := HZ.out.cell 2 _ rfl
    have z3 := HZ.out.cell 3 _ rfl
    have z4 := HZ.out.cell 4 _ rfl
    have zl := HZ.out.lt
    have zf := HZ.out.frozen
    have b0 := HB.out.cell 0 _ rfl
    have b1 := HB.out.cell 1 _ rfl
    have b2 := HB.out.cell 2 _ rfl
    have b3 := HB.out.cell 3 _ rfl
    have b4 := HB.out.cell 4 _ rfl
    have bl := HB.out.lt
    have bf := HB.out.frozen
    cases O
    · simp only [cond_false] at HP HE ⊢
      obtain rfl : E = 120 := HE.out
      go_wp2_with fail
      refine bodyPost_ret (v := .tuple #[.agg #[.int .i64 0, .slice none 0 0, .slice none 0 0, .int .i64 0, .int .i64 0], .int .i64 120]) (by simp [results, Try.results29, go_sem, *]) rfl ⟨RCni.zero, rfl, HP.out.symm, RCni.zero_own _ _, ?_⟩
      repeat (first | with_reducible exact HK.out | with_reducible refine Keeps.setCell ?_ (by simp <;> omega) _ | with_reducible refine Keeps.alloc ?_ _)
    simp only [cond_true, cond_false] at HP HE ⊢
    obtain rfl : E = 2 := HE.out
    go_wp2_with fail
    refine bodyPost_ret (v := .tuple #[.agg #[.int .i64 0, .slice none 0 0, .slice none 0 0, .int .i64 0, .int .i64 0], .int .i64 2]) (by simp [results, Try.results29, go_sem, *]) rfl ⟨RCni.zero, rfl, HP.out.symm, RCni.zero_own _ _, ?_⟩
    repeat (first | with_reducible exact HK.out | with_reducible refine Keeps.setCell ?_ (by simp <;> omega) _ | with_reducible refine Keeps.alloc ?_ _)
  have d0 : decide (slot < 0) = false := decide_eq_false t0
  obtain ⟨k, rfl⟩ : ∃ k : Nat, slot = k := ⟨slot.toNat, by omega⟩
  by_cases t2 : n ≤ k
  case pos =>
    have d2 : decide (n ≤ k) = true := decide_eq_true t2
    have d3 : decide ((n : Int) ≤ (k : Int)) = true := by simp; omega
    obtain rfl : B = false := HBN.out (by omega)
    go_enter Try.func29, Try.ntmps29
    go_wp2_with fail
    (with_reducible refine (HCH.out _ (by exact HC.out.keeps HK.out)).mono ?_)
    rintro e w1 ⟨rfl, hk1⟩
    replace HB := Lib.hid (HB.out.keeps hk1)
    replace HZ := Lib.hid (HZ.out.keeps hk1)
    replace HK := Lib.hid (HK.out.trans hk1)
    clear hk1
    have z0 := HZ.out.cell 0 _ rfl
    have z1 := HZ.out.cell 1 _ rfl
    have z2 := HZ.out.cell 2 _ rfl
    have z3 := HZ.out.cell 3 _ rfl
    have z4 := HZ.out.cell 4 _ rfl
    have zl := HZ.out.lt
    have zf := HZ.out.frozen
    have b0 := HB.out.cell 0 _ rfl
    have b1 := HB.out.cell 1 _ rfl
    have b2 := HB.out.cell 2 _ rfl
    have b3 := HB.out.cell 3 _ rfl
    have b4 := HB.out.cell 4 _ rfl
    have bl := HB.out.lt
    have bf := HB.out.frozen
    cases O
    · simp only [cond_false] at HP HE ⊢
      obtain rfl : E = 120 := HE.out
      go_wp2_with fail
      refine bodyPost_ret (v := .tuple #[.agg #[.int .i64 0, .slice none 0 0, .slice none 0 0, .int .i64 0, .int .i64 0], .int .i64 120]) (by simp [results, Try.results29, go_sem, *]) rfl ⟨RCni.zero, rfl, HP.out.symm, RCni.zero_own _ _, ?_⟩
      repeat (first | with_reducible exact HK.out | with_reducible refine Keeps.setCell ?_ (by simp <;> omega) _ | with_reducible refine Keeps.alloc ?_ _)
    simp only [cond_true, cond_false] at HP HE ⊢
    obtain rfl : E = 2 := HE.out
    go_wp2_with fail
    refine bodyPost_ret (v := .tuple #[.agg #[.int .i64 0, .slice none 0 0, .slice none 0 0, .int .i64 0, .int .i64 0], .int .i64 2]) (by simp [results, Try.results29, go_sem, *]) rfl ⟨RCni.zero, rfl, HP.out.symm, RCni.zero_own _ _, ?_⟩
    repeat (first | with_reducible exact HK.out | with_reducible refine Keeps.setCell ?_ (by simp <;> omega) _ | with_reducible refine Keeps.alloc ?_ _)
  have d2 : decide (n ≤ k) = false := decide_eq_false t2
  have d3 : decide ((n : Int) ≤ (k : Int)) = false := by simp; omega
  obtain rfl : B = true := HBY.out (by omega)
  simp only [cond_true] at HP HE
  by_cases t1 : dlen ≤ 8
  case neg =>
    have d1 : decide (8 < dlen) = true := by simpa using t1
    have d4 : decide ((8 : Int) < (dlen : Int)) = true := by simp; omega
    rw [decide_eq_false t1] at HP HE
    go_enter Try.func29, Try.ntmps29
    go_wp2_with fail
    (with_reducible refine (HCH.out _ (by exact HC.out.keeps HK.out)).mono ?_)
    rintro e w1 ⟨rfl, hk1⟩
    replace HB := Lib.hid (HB.out.keeps hk1)
    replace HZ := Lib.hid (HZ.out.keeps hk1)
    replace HK := Lib.hid (HK.out.trans hk1)
    clear hk1
    have z0 := HZ.out.cell 0 _ rfl
    have z1 := HZ.out.cell 1 _ rfl
    have z2 := HZ.out.cell 2 _ rfl
    have z3 := HZ.out.cell 3 _ rfl
    have z4 := HZ.out.cell 4 _ rfl
    have zl := HZ.out.lt
    have zf := HZ.out.frozen
    have b0 := HB.out.cell 0 _ rfl
    have b1 := HB.out.cell 1 _ rfl
    have b2 := HB.out.cell 2 _ rfl
    have b3 := HB.out.cell 3 _ rfl
    have b4 := HB.out.cell 4 _ rfl
    have bl := HB.out.lt
    have bf := HB.out.frozen
    cases O
    · simp only [cond_false] at HP HE ⊢
      obtain rfl : E = 120 := HE.out
      go_wp2_with fail
      refine bodyPost_ret (v := .tuple #[.agg #[.int .i64 0, .slice none 0 0, .slice none 0 0, .int .i64 0, .int .i64 0], .int .i64 120]) (by simp [results, Try.results29, go_sem, *]) rfl ⟨RCni.zero, rfl, HP.out.symm, RCni.zero_own _ _, ?_⟩
      repeat (first | with_reducible exact HK.out | with_reducible refine Keeps.setCell ?_ (by simp <;> omega) _ | with_reducible refine Keeps.alloc ?_ _)
    simp only [cond_true, cond_false] at HP HE ⊢
    obtain rfl : E = 3 := HE.out
    go_wp2_with fail
    refine bodyPost_ret (v := .tuple #[.agg #[.int .i64 0, .slice none 0 0, .slice none 0 0, .int .i64 0, .int .i64 0], .int .i64 3]) (by simp [results, Try.results29, go_sem, *]) rfl ⟨RCni.zero, rfl, HP.out.symm, RCni.zero_own _ _, ?_⟩
    repeat (first | with_reducible exact HK.out | with_reducible refine Keeps.setCell ?_ (by simp <;> omega) _ | with_reducible refine Keeps.alloc ?_ _)
  have d1 : decide (8 < dlen) = false := by simpa using t1
  have d4 : decide ((8 : Int) < (dlen : Int)) = false := by simp; omega
  rw [decide_eq_true t1] at HP HE
  go_enter Try.func29, Try.ntmps29
  go_wp2_with fail
  (with_reducible refine (HCH.out _ (by exact HC.out.keeps HK.out)).mono ?_)
  rintro e w1 ⟨rfl, hk1⟩
  replace HB := Lib.hid (HB.out.keeps hk1)
  replace HZ := Lib.hid (HZ.out.keeps hk1)
  replace HK := Lib.hid (HK.out.trans hk1)
  clear hk1
  have z0 := HZ.out.cell 0 _ rfl
  have z1 := HZ.out.cell 1 _ rfl
  have z2 := HZ.out.cell 2 _ rfl
  have z3 := HZ.out.cell 3 _ rfl
  have z4 := HZ.out.cell 4 _ rfl
  have zl := HZ.out.lt
  have zf := HZ.out.frozen
  have b0 := HB.out.cell 0 _ rfl
  have b1 := HB.out.cell 1 _ rfl
  have b2 := HB.out.cell 2 _ rfl
  have b3 := HB.out.cell 3 _ rfl
  have b4 := HB.out.cell 4 _ rfl
  have bl := HB.out.lt
  have bf := HB.out.frozen
  cases O
  · simp only [cond_false] at HP HE ⊢
    obtain rfl : E = 120 := HE.out
    go_wp2_with fail
    refine bodyPost_ret (v := .tuple #[.agg #[.int .i64 0, .slice none 0 0, .slice none 0 0, .int .i64 0, .int .i64 0], .int .i64 120]) (by simp [results, Try.results29, go_sem, *]) rfl ⟨RCni.zero, rfl, HP.out.symm, RCni.zero_own _ _, ?_⟩
    repeat (first | with_reducible exact HK.out | with_reducible refine Keeps.setCell ?_ (by simp <;> omega) _ | with_reducible refine Keeps.alloc ?_ _)
  simp only [cond_true] at HP HE HQ ⊢
  replace HCL := Lib.hid (HCL.out rfl)
  obtain rfl : E = 0 := HE.out
  go_wp2_with fail
  (with_reducible refine (HCL.out _ (by exact HC.out.keeps HK.out)).mono ?_)
  rintro e w2 ⟨⟨xid, ⟨xoa, xolen, xocap, xol⟩, xia, xn, xcap, xms, xlife, xwant⟩, he, hp, ho, hk1⟩
  have he2 : e = .returned (.agg #[.int .i64 xid, .slice xoa xolen xocap, .slice xia xn xcap, .int .i64 xlife, .int .i64 xwant]) := he
  clear he
  subst he2
  have hws := HZ.out.lt
  have HO : Hid (RCni.Own ⟨xid, ⟨xoa, xolen, xocap, xol⟩, xia, xn, xcap, xms, xlife, xwant⟩ w2 (w.heap.size + 1 + 1)) := Lib.hid (ho.mono (by omega))
  have HXP := Lib.hid hp
  replace HB := Lib.hid (HB.out.keeps hk1)
  replace HZ := Lib.hid (HZ.out.keeps hk1)
  replace HK := Lib.hid (HK.out.trans hk1)
  clear hk1 hp ho b0 b1 b2 b3 b4 bl bf z0 z1 z2 z3 z4 zl zf
  have z0 := HZ.out.cell 0 _ rfl
  have z1 := HZ.out.cell 1 _ rfl
  have z2 := HZ.out.cell 2 _ rfl
  have z3 := HZ.out.cell 3 _ rfl
  have z4 := HZ.out.cell 4 _ rfl
  have zl := HZ.out.lt
  have zf := HZ.out.frozen
  have b0 := HB.out.cell 0 _ rfl
  have b1 := HB.out.cell 1 _ rfl
  have b2 := HB.out.cell 2 _ rfl
  have b3 := HB.out.cell 3 _ rfl
  have b4 := HB.out.cell 4 _ rfl
  have bl := HB.out.lt
  have bf := HB.out.frozen
  go_upto_region 9 with fail
  obtain ⟨W2, hW2⟩ : ∃ W2, W2 = (((((w2.setCell ⟨w.heap.size, 0, none⟩ (.int .i64 xid)).setCell ⟨w.heap.size, 1, none⟩ (.slice xoa xolen xocap)).setCell ⟨w.heap.size, 2, none⟩ (.slice xia xn xcap)).setCell ⟨w.heap.size, 3, none⟩ (.int .i64 xlife)).setCell ⟨w.heap.size, 4, none⟩ (.int .i64 xwant)) := ⟨_, rfl⟩
  have HO2 : Hid (RCni.Own ⟨xid, ⟨xoa, xolen, xocap, xol⟩, xia, xn, xcap, xms, xlife, xwant⟩ W2 (w.heap.size + 1 + 1)) := Lib.hid (by rw [hW2]; exact HO.out.putC (C := w.heap.size) (by omega) ⟨xid, ⟨xoa, xolen, xocap, xol⟩, xia, xn, xcap, xms, xlife, xwant⟩)
  have HB2 : Hid (Box W2 w.heap.size 39 #[.int .i64 xid, .slice xoa xolen xocap, .slice xia xn xcap, .int .i64 xlife, .int .i64 xwant]) := Lib.hid (by rw [hW2]; exact Box.putC (x := ⟨id, ⟨oa, olen, ocap, ol⟩, ia, n, cap, ms, life, want⟩) HB.out ⟨xid, ⟨xoa, xolen, xocap, xol⟩, xia, xn, xcap, xms, xlife, xwant⟩)
  have HZ2 : Hid (Box W2 (w.heap.size + 1) 39 #[.int .i64 0, .slice none 0 0, .slice none 0 0, .int .i64 0, .int .i64 0]) := Lib.hid (by rw [hW2]; exact (((((HZ.out.keepsBut (KeepsBut.setCell _ w.heap.size 0 (.int .i64 xid)) (by omega)).keepsBut (KeepsBut.setCell _ w.heap.size 1 (.slice xoa xolen xocap)) (by omega)).keepsBut (KeepsBut.setCell _ w.heap.size 2 (.slice xia xn xcap)) (by omega)).keepsBut (KeepsBut.setCell _ w.heap.size 3 (.int .i64 xlife)) (by omega)).keepsBut (KeepsBut.setCell _ w.heap.size 4 (.int .i64 xwant)) (by omega)))
  have HK2 : Hid (Keeps w W2) := Lib.hid (by rw [hW2]; exact HK.out.putC (C := w.heap.size) (Nat.le_refl _) ⟨xid, ⟨xoa, xolen, xocap, xol⟩, xia, xn, xcap, xms, xlife, xwant⟩)
  rw [← hW2]
  have HO := HO2
  have HB := HB2
  have HZ := HZ2
  have HK := HK2
  clear hW2 b0 b1 b2 b3 b4 bl bf z0 z1 z2 z3 z4 zl zf HO2 HB2 HZ2 HK2
  have z0 := HZ.out.cell 0 _ rfl
  have z1 := HZ.out.cell 1 _ rfl
  have z2 := HZ.out.cell 2 _ rfl
  have z3 := HZ.out.cell 3 _ rfl
  have z4 := HZ.out.cell 4 _ rfl
  have zl := HZ.out.lt
  have zf := HZ.out.frozen
  have b0 := HB.out.cell 0 _ rfl
  have b1 := HB.out.cell 1 _ rfl
  have b2 := HB.out.cell 2 _ rfl
  have b3 := HB.out.cell 3 _ rfl
  have b4 := HB.out.cell 4 _ rfl
  have bl := HB.out.lt
  have bf := HB.out.frozen
  obtain ⟨hxl, hxc, hxm, hxg⟩ := HO.out.row
  have HQL : Hid (Q.ms = xms.map RMsg.p) := Lib.hid (by rw [← HXP.out]; rfl)
  have hxn : xn = n := by
    have h := HML.out
    rw [← HQ.out, HQL.out, List.length_map] at h
    simp only at hxl h
    omega
  simp only at hxl hxc hxm hxg
  subst hxn
  obtain ⟨g, hia, hg1, hg2, hfz, hcell⟩ := hxg (by omega)
  subst hia
  have HXL := Lib.hid hxl
  have hkx : k < xms.length := by omega
  obtain ⟨hc0, hc1⟩ := hcell k hkx
  have HPX : Hid (∀ y : RY, y.l = dl → ((xms.set k ⟨y, xms[k].age⟩).set k ⟨y, 0⟩).map RMsg.p = (xms.map RMsg.p).set k (dl, 0)) := Lib.hid (fun y hy => by rw [List.set_set, List.map_set]; simp [RMsg.p, hy])
  have HDA := Lib.hid (fun (W : World) (h : RCni.Own ⟨xid, ⟨xoa, xolen, xocap, xol⟩, some ⟨g, 0, none⟩, xn, xcap, xms, xlife, xwant⟩ W (w.heap.size + 1 + 1)) (y : RY) (hy : y.In W) (hb : 0 < y.len → ∀ a, y.a = some a → w.heap.size + 1 + 1 ≤ a.block ∧ a.block ≠ g) => by
    have h1 := h.dat rfl hxl k hkx y hy hb
    have h2 := h1.age rfl (by simp only [List.length_set]; exact hxl) k (by simp only [List.length_set]; exact hkx) 0
    simp only [List.getElem_set_self] at h2
    exact h2)
  have hkn : k < xn := by omega
  obtain ⟨age, hage⟩ : ∃ age, age = xms[k].age := ⟨_, rfl⟩
  obtain ⟨od, hod⟩ : ∃ od, od = xms[k].d := ⟨_, rfl⟩
  simp only [← hage, ← hod] at hc0 hc1 HDA HPX
  clear hcell hxg hxl hage hod t0 t2
  have HDR : Hid (Row W2 .u8 da dlen dl) := Lib.hid (HD.out.keeps HK.out).row
  have HDB : Hid (∀ v ∈ dl, v < 256) := Lib.hid HD.out.byte
  have hz0 := hfz (k * 2)
  have hz1 := hfz (k * 2 + 1)
  clear b0 b1 b3 b4 z0 z1 z2 z3 z4 zl zf
  have HBK := HB
  go_region_law (first
    | (refine step_copiedN rfl (.const (.slice none 0 0)) (.tmp 34) 36 rfl 5 1 .u8 Try.underlying36 infoY rfl da dlen dcap dl rfl (by first | exact HDR.out | exact HDR.out.keeps (Keeps.refl _).drew) (by omega) hd63 ?_; intro ma mcap w4 hmr hmf hmc hmm hmk; have hkq : Keeps W2 w4 := Keeps.trans (show Keeps W2 _ by repeat (first | with_reducible exact Keeps.refl _ | with_reducible refine Keeps.drew ?_)) hmk; have hq0 := Keeps.later hkq hc0; have hq1 := Keeps.later hkq hc1; have hq2 := Keeps.later hkq b2; have hqf := (Keeps.frozen hkq g (k * 2) hg2).trans hz0; have hqg := (Keeps.frozen hkq g (k * 2 + 1) hg2).trans hz1; have hql := hkq.size; have hq3 : g < w4.heap.size := (by omega); have HMI : Hid (RY.In ⟨ma, dlen, mcap, dl⟩ w4) := Lib.hid ⟨hmc, hmm, HDB.out, hmr⟩; have HMF : Hid (∀ a, ma = some a → W2.heap.size ≤ a.block) := Lib.hid hmf; have HKQ := Lib.hid hkq; clear hmc hmm hmr hmf hmk hkq))
  all_goals
    obtain ⟨W5, hW5⟩ : ∃ W5, W5 = (w4.setCell ⟨g, k * 2, none⟩ (.slice ma dlen mcap)).setCell ⟨g, k * 2 + 1, none⟩ (.int .i64 0) := ⟨_, rfl⟩
    have HO5 : Hid (RCni.Own ⟨xid, ⟨xoa, xolen, xocap, xol⟩, some ⟨g, 0, none⟩, xn, xcap, (xms.set k ⟨⟨ma, dlen, mcap, dl⟩, age⟩).set k ⟨⟨ma, dlen, mcap, dl⟩, 0⟩, xlife, xwant⟩ W5 (w.heap.size + 1 + 1)) := Lib.hid (by
      rw [hW5]
      exact HDA.out w4 (HO.out.keeps HKQ.out) ⟨ma, dlen, mcap, dl⟩ HMI.out (fun h0 a ha => by have := HMF.out a ha; omega))
    have HB5 : Hid (Box W5 w.heap.size 39 #[.int .i64 xid, .slice xoa xolen xocap, .slice (some ⟨g, 0, none⟩) xn xcap, .int .i64 xlife, .int .i64 xwant]) := Lib.hid (by
      rw [hW5]
      exact ((HBK.out.keeps HKQ.out).keepsBut (KeepsBut.setCell _ g (k * 2) (.slice ma dlen mcap)) (by omega)).keepsBut (KeepsBut.setCell _ g (k * 2 + 1) (.int .i64 0)) (by omega))
    have HZ5 : Hid (Box W5 (w.heap.size + 1) 39 #[.int .i64 0, .slice none 0 0, .slice none 0 0, .int .i64 0, .int .i64 0]) := Lib.hid (by
      rw [hW5]
      exact ((HZ.out.keeps HKQ.out).keepsBut (KeepsBut.setCell _ g (k * 2) (.slice ma dlen mcap)) (by omega)).keepsBut (KeepsBut.setCell _ g (k * 2 + 1) (.int .i64 0)) (by omega))
    have HK5 : Hid (Keeps w W5) := Lib.hid (by
      rw [hW5]
      exact ((HK.out.trans HKQ.out).setCell (show w.heap.size ≤ g by omega) (p := ⟨g, k * 2, none⟩) (.slice ma dlen mcap)).setCell (show w.heap.size ≤ g by omega) (p := ⟨g, k * 2 + 1, none⟩) (.int .i64 0))
    rw [← hW5]
    clear hW5 hq0 hq1 hq2 hqf hqg hc0 hc1 hz0 hz1 hfz b2 bl bf HB HZ HK HO
    have HK := HK5
    have b0 := HB5.out.cell 0 _ rfl
    have b1 := HB5.out.cell 1 _ rfl
    have b2 := HB5.out.cell 2 _ rfl
    have b3 := HB5.out.cell 3 _ rfl
    have b4 := HB5.out.cell 4 _ rfl
    have bl := HB5.out.lt
    have bf := HB5.out.frozen
    have z0 := HZ5.out.cell 0 _ rfl
    have z1 := HZ5.out.cell 1 _ rfl
    have z2 := HZ5.out.cell 2 _ rfl
    have z3 := HZ5.out.cell 3 _ rfl
    have z4 := HZ5.out.cell 4 _ rfl
    have zl := HZ5.out.lt
    have zf := HZ5.out.frozen
    go_wp2_with fail
    refine bodyPost_ret (v := .tuple #[.agg #[.int .i64 xid, .slice xoa xolen xocap, .slice (some ⟨g, 0, none⟩) xn xcap, .int .i64 xlife, .int .i64 xwant], .int .i64 0]) (by simp [results, Try.results29, go_sem, *]) rfl ⟨⟨xid, ⟨xoa, xolen, xocap, xol⟩, some ⟨g, 0, none⟩, xn, xcap, (xms.set k ⟨⟨ma, dlen, mcap, dl⟩, age⟩).set k ⟨⟨ma, dlen, mcap, dl⟩, 0⟩, xlife, xwant⟩, rfl, ?_, ?_, ?_⟩
    · rw [HP.out, HQL.out, ← HXP.out]
      have h := HPX.out ⟨ma, dlen, mcap, dl⟩ rfl
      simp only [RCni.p]
      rw [h]; rfl
    · refine RCni.Own.mono (base := w.heap.size + 1 + 1) (RCni.Own.same (w := W5) (E := W5.heap.size) HO5.out ?_ (Nat.le_refl _)) (by omega)
      repeat (first | with_reducible exact SameOn.refl _ _ _ | with_reducible refine SameOn.setCell ?_ (by omega) _ _ | with_reducible refine SameOn.alloc ?_ (by simp) _)
    · repeat (first | with_reducible exact HK.out | with_reducible refine Keeps.setCell ?_ (by simp <;> omega) _ | with_reducible refine Keeps.alloc ?_ _)
end Go.Proofs.Ytcophhdlcjemeaa
