/- The walks of layer 12, 15: the reference's Beat, Ask, Write. -/
import Derived.Test.YtcophhdlcjemeaaK13
import Derived.Test.YtcophhdlcjemeaaK9
import Derived.Deep.DeepCutAuto
namespace Go.Proofs.Ytcophhdlcjemeaa
open Go.RowKit
set_option linter.unusedVariables false
set_option linter.unusedSimpArgs false
theorem reach12_ok {c : RCni} {w : World} (hc : c.In w) (h : cniOk c.p = true) : Reach12 c := by
  obtain ⟨h1, h2, h3, h4, h5, h6⟩ := (cniOk_iff c.p).1 h
  have hn := hc.m.len
  have ho := hc.o.row.1
  simp only [RCni.p, List.length_map] at h1 h3 h6
  refine ⟨by omega, by omega, fun x hx => ?_⟩
  have h7 := (h6 x.p (List.mem_map_of_mem hx)).1
  have h8 := (hc.m.isIn x hx).row.1
  simp only [RMsg.p] at h7
  omega
set_option maxRecDepth 100000 in
set_option maxHeartbeats 2000000 in
theorem rbeat_any (c : RCni) (w : World) (hc : c.In w) : Calls Try.prog 41 #[c.val] w (CniPost (beatP c.p) (ownE c.p) w) := by
  have HCH : Hid (∀ w, c.In w → Calls Try.prog 33 #[c.val] w fun e w' => e = .returned (.int .i64 (cond (cniOk c.p) 0 120)) ∧ Keeps w w') := Lib.hid (rccheck_any c)
  have HCL : Hid (cniOk c.p = true → ∀ w, c.In w → Calls Try.prog 27 #[c.val] w (ClonePost (ownP c.p) w)) := Lib.hid (fun h w hc => by
    have h2 := clone12_any c w hc (reach12_ok hc h)
    have h3 : ownP c.p = c.p := by unfold ownP; rw [h]; rfl
    rw [h3]; exact h2)
  have HOK := Lib.hid (fun h => (cniOk_iff c.p).1 h)
  have HQ : Hid (ownP c.p = cond (cniOk c.p) c.p PCni.zero) := Lib.hid rfl
  have HP : Hid (beatP c.p = cond (cniOk c.p) { ownP c.p with life := 4 } PCni.zero) := Lib.hid (by unfold beatP ownP; cases cniOk c.p <;> rfl)
  have HE : Hid (ownE c.p = cond (cniOk c.p) 0 120) := Lib.hid (by unfold ownE; cases cniOk c.p <;> rfl)
  obtain ⟨P, hP⟩ : ∃ P, P = beatP c.p := ⟨_, rfl⟩
  obtain ⟨E, hE⟩ : ∃ E, E = ownE c.p := ⟨_, rfl⟩
  obtain ⟨Q, hQ⟩ : ∃ Q, Q = ownP c.p := ⟨_, rfl⟩
  obtain ⟨O, hO⟩ : ∃ O, O = cniOk c.p := ⟨_, rfl⟩
  rw [← hO, ← hQ] at HCL
  rw [← hO] at HCH
  rw [← hO, ← hQ] at HQ
  rw [← hO] at HOK
  rw [← hP, ← hO, ← hQ] at HP
  rw [← hE, ← hO] at HE
  rw [← hP, ← hE]
  clear hP hE hQ hO
  have HC := Lib.hid hc
  clear hc
  obtain ⟨id, ⟨oa, olen, ocap, ol⟩, ia, n, cap, ms, life, want⟩ := c
  have HK := Lib.hid (((Keeps.refl w).alloc (.cells #[.int .i64 id, .slice oa olen ocap, .slice ia n cap, .int .i64 life, .int .i64 want] 39)).alloc (.cells #[.int .i64 0, .slice none 0 0, .slice none 0 0, .int .i64 0, .int .i64 0] 39))
  have HB := Lib.hid ((Box.new w 39 #[.int .i64 id, .slice oa olen ocap, .slice ia n cap, .int .i64 life, .int .i64 want]).next (.cells #[.int .i64 0, .slice none 0 0, .slice none 0 0, .int .i64 0, .int .i64 0] 39))
  have hz := Box.new (w.alloc (.cells #[.int .i64 id, .slice oa olen ocap, .slice ia n cap, .int .i64 life, .int .i64 want] 39)) 39 #[.int .i64 0, .slice none 0 0, .slice none 0 0, .int .i64 0, .int .i64 0]
  rw [World.size_alloc] at hz
  have HZ := Lib.hid hz
  clear hz
  show Calls Try.prog 41 #[.agg #[.int .i64 id, .slice oa olen ocap, .slice ia n cap, .int .i64 life, .int .i64 want]] w _
  go_enter Try.func41, Try.ntmps41
  go_wp2_with fail
  (with_reducible refine (HCH.out _ (by exact HC.out.keeps HK.out)).mono ?_)
  rintro e w1 ⟨rfl, hk1⟩
  replace HB := Lib.hid (HB.out.keeps hk1)
  replace HZ := Lib.hid (HZ.out.keeps hk1)
  replace HK := Lib.hid (HK.out.trans hk1)
  clear hk1
  have z0 := HZ.out.cell 0 _ rfl
  have z1 := HZ.out.cell 1 _ rfl
  have z2 := HZ.out.cell 2 _ rfl
  have z3 := HZ.out.cell 3 _ rfl
  have z4 := HZ.out.cell 4 _ rfl
  have zl := HZ.out.lt
  have zf := HZ.out.frozen
  have b0 := HB.out.cell 0 _ rfl
  have b1 := HB.out.cell 1 _ rfl
  have b2 := HB.out.cell 2 _ rfl
  have b3 := HB.out.cell 3 _ rfl
  have b4 := HB.out.cell 4 _ rfl
  have bl := HB.out.lt
  have bf := HB.out.frozen
  cases O
  · simp only [cond_false] at HP HE ⊢
    obtain rfl : E = 120 := HE.out
    go_wp2_with fail
    refine bodyPost_ret (v := .tuple #[.agg #[.int .i64 0, .slice none 0 0, .slice none 0 0, .int .i64 0, .int .i64 0], .int .i64 120]) (by simp [results, Try.results41, go_sem, *]) rfl ⟨RCni.zero, rfl, HP.out.symm, RCni.zero_own _ _, ?_⟩
    repeat (first | with_reducible exact HK.out | with_reducible refine Keeps.setCell ?_ (by simp <;> omega) _ | with_reducible refine Keeps.alloc ?_ _)
  simp only [cond_true] at HP HE HQ ⊢
  replace HCL := Lib.hid (HCL.out rfl)
  obtain rfl : E = 0 := HE.out
  go_wp2_with fail
  (with_reducible refine (HCL.out _ (by exact HC.out.keeps HK.out)).mono ?_)
  rintro e w2 ⟨⟨xid, ⟨xoa, xolen, xocap, xol⟩, xia, xn, xcap, xms, xlife, xwant⟩, he, hp, ho, hk1⟩
  have he2 : e = .returned (.agg #[.int .i64 xid, .slice xoa xolen xocap, .slice xia xn xcap, .int .i64 xlife, .int .i64 xwant]) := he
  clear he
  subst he2
  have hws := HZ.out.lt
  have HO : Hid (RCni.Own ⟨xid, ⟨xoa, xolen, xocap, xol⟩, xia, xn, xcap, xms, xlife, xwant⟩ w2 (w.heap.size + 1 + 1)) := Lib.hid (ho.mono (by omega))
  have HXP := Lib.hid hp
  replace HB := Lib.hid (HB.out.keeps hk1)
  replace HZ := Lib.hid (HZ.out.keeps hk1)
  replace HK := Lib.hid (HK.out.trans hk1)
  clear hk1 hp ho b0 b1 b2 b3 b4 bl bf z0 z1 z2 z3 z4 zl zf
  have z0 := HZ.out.cell 0 _ rfl
  have z1 := HZ.out.cell 1 _ rfl
  have z2 := HZ.out.cell 2 _ rfl
  have z3 := HZ.out.cell 3 _ rfl
  have z4 := HZ.out.cell 4 _ rfl
  have zl := HZ.out.lt
  have zf := HZ.out.frozen
  have b0 := HB.out.cell 0 _ rfl
  have b1 := HB.out.cell 1 _ rfl
  have b2 := HB.out.cell 2 _ rfl
  have b3 := HB.out.cell 3 _ rfl
  have b4 := HB.out.cell 4 _ rfl
  have bl := HB.out.lt
  have bf := HB.out.frozen
  go_upto_region 5 with fail
  obtain ⟨W2, hW2⟩ : ∃ W2, W2 = (((((w2.setCell ⟨w.heap.size, 0, none⟩ (.int .i64 xid)).setCell ⟨w.heap.size, 1, none⟩ (.slice xoa xolen xocap)).setCell ⟨w.heap.size, 2, none⟩ (.slice xia xn xcap)).setCell ⟨w.heap.size, 3, none⟩ (.int .i64 xlife)).setCell ⟨w.heap.size, 4, none⟩ (.int .i64 xwant)) := ⟨_, rfl⟩
  have HO2 : Hid (RCni.Own ⟨xid, ⟨xoa, xolen, xocap, xol⟩, xia, xn, xcap, xms, xlife, xwant⟩ W2 (w.heap.size + 1 + 1)) := Lib.hid (by rw [hW2]; exact HO.out.putC (C := w.heap.size) (by omega) ⟨xid, ⟨xoa, xolen, xocap, xol⟩, xia, xn, xcap, xms, xlife, xwant⟩)
  have HB2 : Hid (Box W2 w.heap.size 39 #[.int .i64 xid, .slice xoa xolen xocap, .slice xia xn xcap, .int .i64 xlife, .int .i64 xwant]) := Lib.hid (by rw [hW2]; exact Box.putC (x := ⟨id, ⟨oa, olen, ocap, ol⟩, ia, n, cap, ms, life, want⟩) HB.out ⟨xid, ⟨xoa, xolen, xocap, xol⟩, xia, xn, xcap, xms, xlife, xwant⟩)
  have HZ2 : Hid (Box W2 (w.heap.size + 1) 39 #[.int .i64 0, .slice none 0 0, .slice none 0 0, .int .i64 0, .int .i64 0]) := Lib.hid (by rw [hW2]; exact (((((HZ.out.keepsBut (KeepsBut.setCell _ w.heap.size 0 (.int .i64 xid)) (by omega)).keepsBut (KeepsBut.setCell _ w.heap.size 1 (.slice xoa xolen xocap)) (by omega)).keepsBut (KeepsBut.setCell _ w.heap.size 2 (.slice xia xn xcap)) (by omega)).keepsBut (KeepsBut.setCell _ w.heap.size 3 (.int .i64 xlife)) (by omega)).keepsBut (KeepsBut.setCell _ w.heap.size 4 (.int .i64 xwant)) (by omega)))
  have HK2 : Hid (Keeps w W2) := Lib.hid (by rw [hW2]; exact HK.out.putC (C := w.heap.size) (Nat.le_refl _) ⟨xid, ⟨xoa, xolen, xocap, xol⟩, xia, xn, xcap, xms, xlife, xwant⟩)
  rw [← hW2]
  have HO := HO2
  have HB := HB2
  have HZ := HZ2
  have HK := HK2
  clear hW2 b0 b1 b2 b3 b4 bl bf z0 z1 z2 z3 z4 zl zf HO2 HB2 HZ2 HK2
  have z0 := HZ.out.cell 0 _ rfl
  have z1 := HZ.out.cell 1 _ rfl
  have z2 := HZ.out.cell 2 _ rfl
  have z3 := HZ.out.cell 3 _ rfl
  have z4 := HZ.out.cell 4 _ rfl
  have zl := HZ.out.lt
  have zf := HZ.out.frozen
  have b0 := HB.out.cell 0 _ rfl
  have b1 := HB.out.cell 1 _ rfl
  have b2 := HB.out.cell 2 _ rfl
  have b3 := HB.out.cell 3 _ rfl
  have b4 := HB.out.cell 4 _ rfl
  have bl := HB.out.lt
  have bf := HB.out.frozen
  go_wp2_with fail
  refine bodyPost_ret (v := .tuple #[.agg #[.int .i64 xid, .slice xoa xolen xocap, .slice xia xn xcap, .int .i64 4, .int .i64 xwant], .int .i64 0]) (by simp [results, Try.results41, go_sem, *]) rfl ⟨⟨xid, ⟨xoa, xolen, xocap, xol⟩, xia, xn, xcap, xms, 4, xwant⟩, rfl, ?_, ?_, ?_⟩
  · rw [HP.out, ← HXP.out]; rfl
  · refine RCni.Own.mono (base := w.heap.size + 1 + 1) (RCni.Own.same (w := W2) (E := W2.heap.size) (RCni.Own.withN (c := ⟨xid, ⟨xoa, xolen, xocap, xol⟩, xia, xn, xcap, xms, xlife, xwant⟩) HO.out 4 xwant) ?_ (Nat.le_refl _)) (by omega)
    repeat (first | with_reducible exact SameOn.refl _ _ _ | with_reducible refine SameOn.setCell ?_ (by omega) _ _ | with_reducible refine SameOn.alloc ?_ (by simp) _)
  · repeat (first | with_reducible exact HK.out | with_reducible refine Keeps.setCell ?_ (by simp <;> omega) _ | with_reducible refine Keeps.alloc ?_ _)
set_option maxRecDepth 100000 in
set_option maxHeartbeats 2000000 in
theorem rask_any (c : RCni) (mode : Int) (w : World) (hc : c.In w) : Calls Try.prog 43 #[c.val, .int .i64 mode] w (CniPost (askP c.p mode) (askE c.p mode) w) := by
  have HCH : Hid (∀ w, c.In w → Calls Try.prog 33 #[c.val] w fun e w' => e = .returned (.int .i64 (cond (cniOk c.p) 0 120)) ∧ Keeps w w') := Lib.hid (rccheck_any c)
  have HCL : Hid (cniOk c.p = true → ∀ w, c.In w → Calls Try.prog 27 #[c.val] w (ClonePost (ownP c.p) w)) := Lib.hid (fun h w hc => by
    have h2 := clone12_any c w hc (reach12_ok hc h)
    have h3 : ownP c.p = c.p := by unfold ownP; rw [h]; rfl
    rw [h3]; exact h2)
  have HOK := Lib.hid (fun h => (cniOk_iff c.p).1 h)
  have HQ : Hid (ownP c.p = cond (cniOk c.p) c.p PCni.zero) := Lib.hid rfl
  have HP : Hid (askP c.p mode = cond (cniOk c.p) (cond (betw mode (-1) 3) { ownP c.p with want := mode } PCni.zero) PCni.zero) := Lib.hid (by unfold askP ownP; cases cniOk c.p <;> rfl)
  have HE : Hid (askE c.p mode = cond (cniOk c.p) (cond (betw mode (-1) 3) 0 2) 120) := Lib.hid (by unfold askE; cases cniOk c.p <;> rfl)
  obtain ⟨P, hP⟩ : ∃ P, P = askP c.p mode := ⟨_, rfl⟩
  obtain ⟨E, hE⟩ : ∃ E, E = askE c.p mode := ⟨_, rfl⟩
  obtain ⟨Q, hQ⟩ : ∃ Q, Q = ownP c.p := ⟨_, rfl⟩
  obtain ⟨O, hO⟩ : ∃ O, O = cniOk c.p := ⟨_, rfl⟩
  rw [← hO, ← hQ] at HCL
  rw [← hO] at HCH
  rw [← hO, ← hQ] at HQ
  rw [← hO] at HOK
  rw [← hP, ← hO, ← hQ] at HP
  rw [← hE, ← hO] at HE
  rw [← hP, ← hE]
  clear hP hE hQ hO
  have HBN : Hid (¬ (-1 ≤ mode ∧ mode ≤ 3) → betw mode (-1) 3 = false) := Lib.hid betw_no
  have HBY : Hid (-1 ≤ mode ∧ mode ≤ 3 → betw mode (-1) 3 = true) := Lib.hid (betw_iff _ _ _).2
  obtain ⟨B, hB⟩ : ∃ B, B = betw mode (-1) 3 := ⟨_, rfl⟩
  rw [← hB] at HP HE HBN HBY
  clear hB
  have HC := Lib.hid hc
  clear hc
  obtain ⟨id, ⟨oa, olen, ocap, ol⟩, ia, n, cap, ms, life, want⟩ := c
  have HK := Lib.hid (((Keeps.refl w).alloc (.cells #[.int .i64 id, .slice oa olen ocap, .slice ia n cap, .int .i64 life, .int .i64 want] 39)).alloc (.cells #[.int .i64 0, .slice none 0 0, .slice none 0 0, .int .i64 0, .int .i64 0] 39))
  have HB := Lib.hid ((Box.new w 39 #[.int .i64 id, .slice oa olen ocap, .slice ia n cap, .int .i64 life, .int .i64 want]).next (.cells #[.int .i64 0, .slice none 0 0, .slice none 0 0, .int .i64 0, .int .i64 0] 39))
  have hz := Box.new (w.alloc (.cells #[.int .i64 id, .slice oa olen ocap, .slice ia n cap, .int .i64 life, .int .i64 want] 39)) 39 #[.int .i64 0, .slice none 0 0, .slice none 0 0, .int .i64 0, .int .i64 0]
  rw [World.size_alloc] at hz
  have HZ := Lib.hid hz
  clear hz
  show Calls Try.prog 43 #[.agg #[.int .i64 id, .slice oa olen ocap, .slice ia n cap, .int .i64 life, .int .i64 want], .int .i64 mode] w _
  by_cases t0 : mode < -1
  case pos =>
    have d0 : decide (mode < -1) = true := decide_eq_true t0
    obtain rfl : B = false := HBN.out (by omega)
    go_enter Try.func43, Try.ntmps43
    go_wp2_with fail
    (with_reducible refine (HCH.out _ (by exact HC.out.keeps HK.out)).mono ?_)
    rintro e w1 ⟨rfl, hk1⟩
    replace HB := Lib.hid (HB.out.keeps hk1)
    replace HZ := Lib.hid (HZ.out.keeps hk1)
    replace HK := Lib.hid (HK.out.trans hk1)
    clear hk1
    have z0 := HZ.out.cell 0 _ rfl
    have z1 := HZ.out.cell 1 _ rfl
    have z2 := HZ.out.cell 2 _ rfl
    have z3 := HZ.out.cell 3 _ rfl
    have z4 := HZ.out.cell 4 _ rfl
    have zl := HZ.out.lt
    have zf := HZ.out.frozen
    have b0 := HB.out.cell 0 _ rfl
    have b1 := HB.out.cell 1 _ rfl
    have b2 := HB.out.cell 2 _ rfl
    have b3 := HB.out.cell 3 _ rfl
    have b4 := HB.out.cell 4 _ rfl
    have bl := HB.out.lt
    have bf := HB.out.frozen
    cases O
    · simp only [cond_false] at HP HE ⊢
      obtain rfl : E = 120 := HE.out
      go_wp2_with fail
      refine bodyPost_ret (v := .tuple #[.agg #[.int .i64 0, .slice none 0 0, .slice none 0 0, .int .i64 0, .int .i64 0], .int .i64 120]) (by simp [results, Try.results43, go_sem, *]) rfl ⟨RCni.zero, rfl, HP.out.symm, RCni.zero_own _ _, ?_⟩
      repeat (first | with_reducible exact HK.out | with_reducible refine Keeps.setCell ?_ (by simp <;> omega) _ | with_reducible refine Keeps.alloc ?_ _)
    simp only [cond_true, cond_false] at HP HE ⊢
    obtain rfl : E = 2 := HE.out
    go_wp2_with fail
    refine bodyPost_ret (v := .tuple #[.agg #[.int .i64 0, .slice none 0 0, .slice none 0 0, .int .i64 0, .int .i64 0], .int .i64 2]) (by simp [results, Try.results43, go_sem, *]) rfl ⟨RCni.zero, rfl, HP.out.symm, RCni.zero_own _ _, ?_⟩
    repeat (first | with_reducible exact HK.out | with_reducible refine Keeps.setCell ?_ (by simp <;> omega) _ | with_reducible refine Keeps.alloc ?_ _)
  have d0 : decide (mode < -1) = false := decide_eq_false t0
  by_cases t1 : 4 ≤ mode
  case pos =>
    have d1 : decide (4 ≤ mode) = true := decide_eq_true t1
    obtain rfl : B = false := HBN.out (by omega)
    go_enter Try.func43, Try.ntmps43
    go_wp2_with fail
    (with_reducible refine (HCH.out _ (by exact HC.out.keeps HK.out)).mono ?_)
    rintro e w1 ⟨rfl, hk1⟩
    replace HB := Lib.hid (HB.out.keeps hk1)
    replace HZ := Lib.hid (HZ.out.keeps hk1)
    replace HK := Lib.hid (HK.out.trans hk1)
    clear hk1
    have z0 := HZ.out.cell 0 _ rfl
    have z1 := HZ.out.cell 1 _ rfl
    have z2 := HZ.out.cell 2 _ rfl
    have z3 := HZ.out.cell 3 _ rfl
    have z4 := HZ.out.cell 4 _ rfl
    have zl := HZ.out.lt
    have zf := HZ.out.frozen
    have b0 := HB.out.cell 0 _ rfl
    have b1 := HB.out.cell 1 _ rfl
    have b2 := HB.out.cell 2 _ rfl
    have b3 := HB.out.cell 3 _ rfl
    have b4 := HB.out.cell 4 _ rfl
    have bl := HB.out.lt
    have bf := HB.out.frozen
    cases O
    · simp only [cond_false] at HP HE ⊢
      obtain rfl : E = 120 := HE.out
      go_wp2_with fail
      refine bodyPost_ret (v := .tuple #[.agg #[.int .i64 0, .slice none 0 0, .slice none 0 0, .int .i64 0, .int .i64 0], .int .i64 120]) (by simp [results, Try.results43, go_sem, *]) rfl ⟨RCni.zero, rfl, HP.out.symm, RCni.zero_own _ _, ?_⟩
      repeat (first | with_reducible exact HK.out | with_reducible refine Keeps.setCell ?_ (by simp <;> omega) _ | with_reducible refine Keeps.alloc ?_ _)
    simp only [cond_true, cond_false] at HP HE ⊢
    obtain rfl : E = 2 := HE.out
    go_wp2_with fail
    refine bodyPost_ret (v := .tuple #[.agg #[.int .i64 0, .slice none 0 0, .slice none 0 0, .int .i64 0, .int .i64 0], .int .i64 2]) (by simp [results, Try.results43, go_sem, *]) rfl ⟨RCni.zero, rfl, HP.out.symm, RCni.zero_own _ _, ?_⟩
    repeat (first | with_reducible exact HK.out | with_reducible refine Keeps.setCell ?_ (by simp <;> omega) _ | with_reducible refine Keeps.alloc ?_ _)
  have d1 : decide (4 ≤ mode) = false := decide_eq_false t1
  obtain rfl : B = true := HBY.out (by omega)
  go_enter Try.func43, Try.ntmps43
  go_wp2_with fail
  (with_reducible refine (HCH.out _ (by exact HC.out.keeps HK.out)).mono ?_)
  rintro e w1 ⟨rfl, hk1⟩
  replace HB := Lib.hid (HB.out.keeps hk1)
  replace HZ := Lib.hid (HZ.out.keeps hk1)
  replace HK := Lib.hid (HK.out.trans hk1)
  clear hk1
  have z0 := HZ.out.cell 0 _ rfl
  have z1 := HZ.out.cell 1 _ rfl
  have z2 := HZ.out.cell 2 _ rfl
  have z3 := HZ.out.cell 3 _ rfl
  have z4 := HZ.out.cell 4 _ rfl
  have zl := HZ.out.lt
  have zf := HZ.out.frozen
  have b0 := HB.out.cell 0 _ rfl
  have b1 := HB.out.cell 1 _ rfl
  have b2 := HB.out.cell 2 _ rfl
  have b3 := HB.out.cell 3 _ rfl
  have b4 := HB.out.cell 4 _ rfl
  have bl := HB.out.lt
  have bf := HB.out.frozen
  cases O
  · simp only [cond_false] at HP HE ⊢
    obtain rfl : E = 120 := HE.out
    go_wp2_with fail
    refine bodyPost_ret (v := .tuple #[.agg #[.int .i64 0, .slice none 0 0, .slice none 0 0, .int .i64 0, .int .i64 0], .int .i64 120]) (by simp [results, Try.results43, go_sem, *]) rfl ⟨RCni.zero, rfl, HP.out.symm, RCni.zero_own _ _, ?_⟩
    repeat (first | with_reducible exact HK.out | with_reducible refine Keeps.setCell ?_ (by simp <;> omega) _ | with_reducible refine Keeps.alloc ?_ _)
  simp only [cond_true] at HP HE HQ ⊢
  replace HCL := Lib.hid (HCL.out rfl)
  obtain rfl : E = 0 := HE.out
  go_wp2_with fail
  (with_reducible refine (HCL.out _ (by exact HC.out.keeps HK.out)).mono ?_)
  rintro e w2 ⟨⟨xid, ⟨xoa, xolen, xocap, xol⟩, xia, xn, xcap, xms, xlife, xwant⟩, he, hp, ho, hk1⟩
  have he2 : e = .returned (.agg #[.int .i64 xid, .slice xoa xolen xocap, .slice xia xn xcap, .int .i64 xlife, .int .i64 xwant]) := he
  clear he
  subst he2
  have hws := HZ.out.lt
  have HO : Hid (RCni.Own ⟨xid, ⟨xoa, xolen, xocap, xol⟩, xia, xn, xcap, xms, xlife, xwant⟩ w2 (w.heap.size + 1 + 1)) := Lib.hid (ho.mono (by omega))
  have HXP := Lib.hid hp
  replace HB := Lib.hid (HB.out.keeps hk1)
  replace HZ := Lib.hid (HZ.out.keeps hk1)
  replace HK := Lib.hid (HK.out.trans hk1)
  clear hk1 hp ho b0 b1 b2 b3 b4 bl bf z0 z1 z2 z3 z4 zl zf
  have z0 := HZ.out.cell 0 _ rfl
  have z1 := HZ.out.cell 1 _ rfl
  have z2 := HZ.out.cell 2 _ rfl
  have z3 := HZ.out.cell 3 _ rfl
  have z4 := HZ.out.cell 4 _ rfl
  have zl := HZ.out.lt
  have zf := HZ.out.frozen
  have b0 := HB.out.cell 0 _ rfl
  have b1 := HB.out.cell 1 _ rfl
  have b2 := HB.out.cell 2 _ rfl
  have b3 := HB.out.cell 3 _ rfl
  have b4 := HB.out.cell 4 _ rfl
  have bl := HB.out.lt
  have bf := HB.out.frozen
  go_upto_region 7 with fail
  obtain ⟨W2, hW2⟩ : ∃ W2, W2 = (((((w2.setCell ⟨w.heap.size, 0, none⟩ (.int .i64 xid)).setCell ⟨w.heap.size, 1, none⟩ (.slice xoa xolen xocap)).setCell ⟨w.heap.size, 2, none⟩ (.slice xia xn xcap)).setCell ⟨w.heap.size, 3, none⟩ (.int .i64 xlife)).setCell ⟨w.heap.size, 4, none⟩ (.int .i64 xwant)) := ⟨_, rfl⟩
  have HO2 : Hid (RCni.Own ⟨xid, ⟨xoa, xolen, xocap, xol⟩, xia, xn, xcap, xms, xlife, xwant⟩ W2 (w.heap.size + 1 + 1)) := Lib.hid (by rw [hW2]; exact HO.out.putC (C := w.heap.size) (by omega) ⟨xid, ⟨xoa, xolen, xocap, xol⟩, xia, xn, xcap, xms, xlife, xwant⟩)
  have HB2 : Hid (Box W2 w.heap.size 39 #[.int .i64 xid, .slice xoa xolen xocap, .slice xia xn xcap, .int .i64 xlife, .int .i64 xwant]) := Lib.hid (by rw [hW2]; exact Box.putC (x := ⟨id, ⟨oa, olen, ocap, ol⟩, ia, n, cap, ms, life, want⟩) HB.out ⟨xid, ⟨xoa, xolen, xocap, xol⟩, xia, xn, xcap, xms, xlife, xwant⟩)
  have HZ2 : Hid (Box W2 (w.heap.size + 1) 39 #[.int .i64 0, .slice none 0 0, .slice none 0 0, .int .i64 0, .int .i64 0]) := Lib.hid (by rw [hW2]; exact (((((HZ.out.keepsBut (KeepsBut.setCell _ w.heap.size 0 (.int .i64 xid)) (by omega)).keepsBut (KeepsBut.setCell _ w.heap.size 1 (.slice xoa xolen xocap)) (by omega)).keepsBut (KeepsBut.setCell _ w.heap.size 2 (.slice xia xn xcap)) (by omega)).keepsBut (KeepsBut.setCell _ w.heap.size 3 (.int .i64 xlife)) (by omega)).keepsBut (KeepsBut.setCell _ w.heap.size 4 (.int .i64 xwant)) (by omega)))
  have HK2 : Hid (Keeps w W2) := Lib.hid (by rw [hW2]; exact HK.out.putC (C := w.heap.size) (Nat.le_refl _) ⟨xid, ⟨xoa, xolen, xocap, xol⟩, xia, xn, xcap, xms, xlife, xwant⟩)
  rw [← hW2]
  have HO := HO2
  have HB := HB2
  have HZ := HZ2
  have HK := HK2
  clear hW2 b0 b1 b2 b3 b4 bl bf z0 z1 z2 z3 z4 zl zf HO2 HB2 HZ2 HK2
  have z0 := HZ.out.cell 0 _ rfl
  have z1 := HZ.out.cell 1 _ rfl
  have z2 := HZ.out.cell 2 _ rfl
  have z3 := HZ.out.cell 3 _ rfl
  have z4 := HZ.out.cell 4 _ rfl
  have zl := HZ.out.lt
  have zf := HZ.out.frozen
  have b0 := HB.out.cell 0 _ rfl
  have b1 := HB.out.cell 1 _ rfl
  have b2 := HB.out.cell 2 _ rfl
  have b3 := HB.out.cell 3 _ rfl
  have b4 := HB.out.cell 4 _ rfl
  have bl := HB.out.lt
  have bf := HB.out.frozen
  go_wp2_with fail
  refine bodyPost_ret (v := .tuple #[.agg #[.int .i64 xid, .slice xoa xolen xocap, .slice xia xn xcap, .int .i64 xlife, .int .i64 mode], .int .i64 0]) (by simp [results, Try.results43, go_sem, *]) rfl ⟨⟨xid, ⟨xoa, xolen, xocap, xol⟩, xia, xn, xcap, xms, xlife, mode⟩, rfl, ?_, ?_, ?_⟩
  · rw [HP.out, ← HXP.out]; rfl
  · refine RCni.Own.mono (base := w.heap.size + 1 + 1) (RCni.Own.same (w := W2) (E := W2.heap.size) (RCni.Own.withN (c := ⟨xid, ⟨xoa, xolen, xocap, xol⟩, xia, xn, xcap, xms, xlife, xwant⟩) HO.out xlife mode) ?_ (Nat.le_refl _)) (by omega)
    repeat (first | with_reducible exact SameOn.refl _ _ _ | with_reducible refine SameOn.setCell ?_ (by omega) _ _ | with_reducible refine SameOn.alloc ?_ (by simp) _)
  · repeat (first | with_reducible exact HK.out | with_reducible refine Keeps.setCell ?_ (by simp <;> omega) _ | with_reducible refine Keeps.alloc ?_ _)
set_option maxRecDepth 100000 in
set_option maxHeartbeats 2000000 in
theorem rwrite_any (c : RCni) (d : RY) (w : World) (hc : c.In w) (hd : d.In w) : Calls Try.prog 40 #[c.val, .slice d.a d.len d.cap] w (CniPost (writeP c.p d.l) (writeE c.p d.l) w) := by
  have HD := Lib.hid hd
  have hdl := hd.row.1
  have hd63 := Nat.le_trans hd.cap hd.max
  clear hd
  have HCH : Hid (∀ w, c.In w → Calls Try.prog 33 #[c.val] w fun e w' => e = .returned (.int .i64 (cond (cniOk c.p) 0 120)) ∧ Keeps w w') := Lib.hid (rccheck_any c)
  have HCL : Hid (cniOk c.p = true → ∀ w, c.In w → Calls Try.prog 27 #[c.val] w (ClonePost (ownP c.p) w)) := Lib.hid (fun h w hc => by
    have h2 := clone12_any c w hc (reach12_ok hc h)
    have h3 : ownP c.p = c.p := by unfold ownP; rw [h]; rfl
    rw [h3]; exact h2)
  have HOK := Lib.hid (fun h => (cniOk_iff c.p).1 h)
  have HQ : Hid (ownP c.p = cond (cniOk c.p) c.p PCni.zero) := Lib.hid rfl
  have HP : Hid (writeP c.p d.l = cond (cniOk c.p) (cond (decide (d.l.length ≤ 8)) { ownP c.p with o := d.l } PCni.zero) PCni.zero) := Lib.hid (by unfold writeP ownP; cases cniOk c.p <;> rfl)
  have HE : Hid (writeE c.p d.l = cond (cniOk c.p) (cond (decide (d.l.length ≤ 8)) 0 3) 120) := Lib.hid (by unfold writeE; cases cniOk c.p <;> rfl)
  obtain ⟨P, hP⟩ : ∃ P, P = writeP c.p d.l := ⟨_, rfl⟩
  obtain ⟨E, hE⟩ : ∃ E, E = writeE c.p d.l := ⟨_, rfl⟩
  obtain ⟨Q, hQ⟩ : ∃ Q, Q = ownP c.p := ⟨_, rfl⟩
  obtain ⟨O, hO⟩ : ∃ O, O = cniOk c.p := ⟨_, rfl⟩
  rw [← hO, ← hQ] at HCL
  rw [← hO] at HCH
  rw [← hO, ← hQ] at HQ
  rw [← hO] at HOK
  rw [← hP, ← hO, ← hQ] at HP
  rw [← hE, ← hO] at HE
  rw [← hP, ← hE]
  clear hP hE hQ hO
  rw [hdl] at HP HE
  obtain ⟨da, dlen, dcap, dl⟩ := d
  simp only at hdl hd63 HP HE HD
  clear hdl
  have HC := Lib.hid hc
  clear hc
  obtain ⟨id, ⟨oa, olen, ocap, ol⟩, ia, n, cap, ms, life, want⟩ := c
  have HK := Lib.hid (((Keeps.refl w).alloc (.cells #[.int .i64 id, .slice oa olen ocap, .slice ia n cap, .int .i64 life, .int .i64 want] 39)).alloc (.cells #[.int .i64 0, .slice none 0 0, .slice none 0 0, .int .i64 0, .int .i64 0] 39))
  have HB := Lib.hid ((Box.new w 39 #[.int .i64 id, .slice oa olen ocap, .slice ia n cap, .int .i64 life, .int .i64 want]).next (.cells #[.int .i64 0, .slice none 0 0, .slice none 0 0, .int .i64 0, .int .i64 0] 39))
  have hz := Box.new (w.alloc (.cells #[.int .i64 id, .slice oa olen ocap, .slice ia n cap, .int .i64 life, .int .i64 want] 39)) 39 #[.int .i64 0, .slice none 0 0, .slice none 0 0, .int .i64 0, .int .i64 0]
  rw [World.size_alloc] at hz
  have HZ := Lib.hid hz
  clear hz
  show Calls Try.prog 40 #[.agg #[.int .i64 id, .slice oa olen ocap, .slice ia n cap, .int .i64 life, .int .i64 want], .slice da dlen dcap] w _
  by_cases t1 : dlen ≤ 8
  case neg =>
    have d1 : decide (8 < dlen) = true := by simpa using t1
    have d2 : decide ((8 : Int) < (dlen : Int)) = true := by simp; omega
    rw [decide_eq_false t1] at HP HE
    go_enter Try.func40, Try.ntmps40
    go_wp2_with fail
    (with_reducible refine (HCH.out _ (by exact HC.out.keeps HK.out)).mono ?_)
    rintro e w1 ⟨rfl, hk1⟩
    replace HB := Lib.hid (HB.out.keeps hk1)
    replace HZ := Lib.hid (HZ.out.keeps hk1)
    replace HK := Lib.hid (HK.out.trans hk1)
    clear hk1
    have z0 := HZ.out.cell 0 _ rfl
    have z1 := HZ.out.cell 1 _ rfl
    have z2 := HZ.out.cell 2 _ rfl
    have z3 := HZ.out.cell 3 _ rfl
    have z4 := HZ.out.cell 4 _ rfl
    have zl := HZ.out.lt
    have zf := HZ.out.frozen
    have b0 := HB.out.cell 0 _ rfl
    have b1 := HB.out.cell 1 _ rfl
    have b2 := HB.out.cell 2 _ rfl
    have b3 := HB.out.cell 3 _ rfl
    have b4 := HB.out.cell 4 _ rfl
    have bl := HB.out.lt
    have bf := HB.out.frozen
    cases O
    · simp only [cond_false] at HP HE ⊢
      obtain rfl : E = 120 := HE.out
      go_wp2_with fail
      refine bodyPost_ret (v := .tuple #[.agg #[.int .i64 0, .slice none 0 0, .slice none 0 0, .int .i64 0, .int .i64 0], .int .i64 120]) (by simp [results, Try.results40, go_sem, *]) rfl ⟨RCni.zero, rfl, HP.out.symm, RCni.zero_own _ _, ?_⟩
      repeat (first | with_reducible exact HK.out | with_reducible refine Keeps.setCell ?_ (by simp <;> omega) _ | with_reducible refine Keeps.alloc ?_ _)
    simp only [cond_true, cond_false] at HP HE ⊢
    obtain rfl : E = 3 := HE.out
    go_wp2_with fail
    refine bodyPost_ret (v := .tuple #[.agg #[.int .i64 0, .slice none 0 0, .slice none 0 0, .int .i64 0, .int .i64 0], .int .i64 3]) (by simp [results, Try.results40, go_sem, *]) rfl ⟨RCni.zero, rfl, HP.out.symm, RCni.zero_own _ _, ?_⟩
    repeat (first | with_reducible exact HK.out | with_reducible refine Keeps.setCell ?_ (by simp <;> omega) _ | with_reducible refine Keeps.alloc ?_ _)
  have d1 : decide (8 < dlen) = false := by simpa using t1
  have d2 : decide ((8 : Int) < (dlen : Int)) = false := by simp; omega
  rw [decide_eq_true t1] at HP HE
  go_enter Try.func40, Try.ntmps40
  go_wp2_with fail
  (with_reducible refine (HCH.out _ (by exact HC.out.keeps HK.out)).mono ?_)
  rintro e w1 ⟨rfl, hk1⟩
  replace HB := Lib.hid (HB.out.keeps hk1)
  replace HZ := Lib.hid (HZ.out.keeps hk1)
  replace HK := Lib.hid (HK.out.trans hk1)
  clear hk1
  have z0 := HZ.out.cell 0 _ rfl
  have z1 := HZ.out.cell 1 _ rfl
  have z2 := HZ.out.cell 2 _ rfl
  have z3 := HZ.out.cell 3 _ rfl
  have z4 := HZ.out.cell 4 _ rfl
  have zl := HZ.out.lt
  have zf := HZ.out.frozen
  have b0 := HB.out.cell 0 _ rfl
  have b1 := HB.out.cell 1 _ rfl
  have b2 := HB.out.cell 2 _ rfl
  have b3 := HB.out.cell 3 _ rfl
  have b4 := HB.out.cell 4 _ rfl
  have bl := HB.out.lt
  have bf := HB.out.frozen
  cases O
  · simp only [cond_false] at HP HE ⊢
    obtain rfl : E = 120 := HE.out
    go_wp2_with fail
    refine bodyPost_ret (v := .tuple #[.agg #[.int .i64 0, .slice none 0 0, .slice none 0 0, .int .i64 0, .int .i64 0], .int .i64 120]) (by simp [results, Try.results40, go_sem, *]) rfl ⟨RCni.zero, rfl, HP.out.symm, RCni.zero_own _ _, ?_⟩
    repeat (first | with_reducible exact HK.out | with_reducible refine Keeps.setCell ?_ (by simp <;> omega) _ | with_reducible refine Keeps.alloc ?_ _)
  simp only [cond_true] at HP HE HQ ⊢
  replace HCL := Lib.hid (HCL.out rfl)
  obtain rfl : E = 0 := HE.out
  go_wp2_with fail
  (with_reducible refine (HCL.out _ (by exact HC.out.keeps HK.out)).mono ?_)
  rintro e w2 ⟨⟨xid, ⟨xoa, xolen, xocap, xol⟩, xia, xn, xcap, xms, xlife, xwant⟩, he, hp, ho, hk1⟩
  have he2 : e = .returned (.agg #[.int .i64 xid, .slice xoa xolen xocap, .slice xia xn xcap, .int .i64 xlife, .int .i64 xwant]) := he
  clear he
  subst he2
  have hws := HZ.out.lt
  have HO : Hid (RCni.Own ⟨xid, ⟨xoa, xolen, xocap, xol⟩, xia, xn, xcap, xms, xlife, xwant⟩ w2 (w.heap.size + 1 + 1)) := Lib.hid (ho.mono (by omega))
  have HXP := Lib.hid hp
  replace HB := Lib.hid (HB.out.keeps hk1)
  replace HZ := Lib.hid (HZ.out.keeps hk1)
  replace HK := Lib.hid (HK.out.trans hk1)
  clear hk1 hp ho b0 b1 b2 b3 b4 bl bf z0 z1 z2 z3 z4 zl zf
  have z0 := HZ.out.cell 0 _ rfl
  have z1 := HZ.out.cell 1 _ rfl
  have z2 := HZ.out.cell 2 _ rfl
  have z3 := HZ.out.cell 3 _ rfl
  have z4 := HZ.out.cell 4 _ rfl
  have zl := HZ.out.lt
  have zf := HZ.out.frozen
  have b0 := HB.out.cell 0 _ rfl
  have b1 := HB.out.cell 1 _ rfl
  have b2 := HB.out.cell 2 _ rfl
  have b3 := HB.out.cell 3 _ rfl
  have b4 := HB.out.cell 4 _ rfl
  have bl := HB.out.lt
  have bf := HB.out.frozen
  go_upto_region 7 with fail
  obtain ⟨W2, hW2⟩ : ∃ W2, W2 = (((((w2.setCell ⟨w.heap.size, 0, none⟩ (.int .i64 xid)).setCell ⟨w.heap.size, 1, none⟩ (.slice xoa xolen xocap)).setCell ⟨w.heap.size, 2, none⟩ (.slice xia xn xcap)).setCell ⟨w.heap.size, 3, none⟩ (.int .i64 xlife)).setCell ⟨w.heap.size, 4, none⟩ (.int .i64 xwant)) := ⟨_, rfl⟩
  have HO2 : Hid (RCni.Own ⟨xid, ⟨xoa, xolen, xocap, xol⟩, xia, xn, xcap, xms, xlife, xwant⟩ W2 (w.heap.size + 1 + 1)) := Lib.hid (by rw [hW2]; exact HO.out.putC (C := w.heap.size) (by omega) ⟨xid, ⟨xoa, xolen, xocap, xol⟩, xia, xn, xcap, xms, xlife, xwant⟩)
  have HB2 : Hid (Box W2 w.heap.size 39 #[.int .i64 xid, .slice xoa xolen xocap, .slice xia xn xcap, .int .i64 xlife, .int .i64 xwant]) := Lib.hid (by rw [hW2]; exact Box.putC (x := ⟨id, ⟨oa, olen, ocap, ol⟩, ia, n, cap, ms, life, want⟩) HB.out ⟨xid, ⟨xoa, xolen, xocap, xol⟩, xia, xn, xcap, xms, xlife, xwant⟩)
  have HZ2 : Hid (Box W2 (w.heap.size + 1) 39 #[.int .i64 0, .slice none 0 0, .slice none 0 0, .int .i64 0, .int .i64 0]) := Lib.hid (by rw [hW2]; exact (((((HZ.out.keepsBut (KeepsBut.setCell _ w.heap.size 0 (.int .i64 xid)) (by omega)).keepsBut (KeepsBut.setCell _ w.heap.size 1 (.slice xoa xolen xocap)) (by omega)).keepsBut (KeepsBut.setCell _ w.heap.size 2 (.slice xia xn xcap)) (by omega)).keepsBut (KeepsBut.setCell _ w.heap.size 3 (.int .i64 xlife)) (by omega)).keepsBut (KeepsBut.setCell _ w.heap.size 4 (.int .i64 xwant)) (by omega)))
  have HK2 : Hid (Keeps w W2) := Lib.hid (by rw [hW2]; exact HK.out.putC (C := w.heap.size) (Nat.le_refl _) ⟨xid, ⟨xoa, xolen, xocap, xol⟩, xia, xn, xcap, xms, xlife, xwant⟩)
  rw [← hW2]
  have HO := HO2
  have HB := HB2
  have HZ := HZ2
  have HK := HK2
  clear hW2 b0 b1 b2 b3 b4 bl bf z0 z1 z2 z3 z4 zl zf HO2 HB2 HZ2 HK2
  have z0 := HZ.out.cell 0 _ rfl
  have z1 := HZ.out.cell 1 _ rfl
  have z2 := HZ.out.cell 2 _ rfl
  have z3 := HZ.out.cell 3 _ rfl
  have z4 := HZ.out.cell 4 _ rfl
  have zl := HZ.out.lt
  have zf := HZ.out.frozen
  have b0 := HB.out.cell 0 _ rfl
  have b1 := HB.out.cell 1 _ rfl
  have b2 := HB.out.cell 2 _ rfl
  have b3 := HB.out.cell 3 _ rfl
  have b4 := HB.out.cell 4 _ rfl
  have bl := HB.out.lt
  have bf := HB.out.frozen
  have HDP := Lib.hid (HD.out.keeps HK.out).row
  have HDB := Lib.hid HD.out.byte
  simp only at HDP HDB
  have hwp : w.heap.size + 1 + 1 ≤ W2.heap.size := HZ.out.lt
  go_wp2_with (refine wpList_copied rfl _ _ 36 rfl 5 1 .u8 Try.underlying36 infoY rfl da dlen dcap dl rfl (by exact HDP.out) (by omega) (by omega) ?hmain)
  case hmain =>
    intro ya ycap w3 hyr hyf hyc hym hk1
    have HYI : Hid (RY.In ⟨ya, dlen, ycap, dl⟩ w3) := Lib.hid ⟨hyc, hym, HDB.out, hyr⟩
    have HYF : Hid (∀ a, ya = some a → W2.heap.size ≤ a.block) := Lib.hid hyf
    have HO3 : Hid (RCni.Own ⟨xid, ⟨xoa, xolen, xocap, xol⟩, xia, xn, xcap, xms, xlife, xwant⟩ w3 (w.heap.size + 1 + 1)) := Lib.hid (HO.out.keeps hk1)
    have HB3 : Hid (Box w3 w.heap.size 39 #[.int .i64 xid, .slice xoa xolen xocap, .slice xia xn xcap, .int .i64 xlife, .int .i64 xwant]) := Lib.hid (HB.out.keeps hk1)
    have HZ3 := Lib.hid (HZ.out.keeps hk1)
    have HK3 : Hid (Keeps w w3) := Lib.hid (HK.out.trans hk1)
    have HO2 := HO
    clear hyr hyf hyc hym hk1 HDP HDB HB HZ HK HO b0 b1 b2 b3 b4 bl bf z0 z1 z2 z3 z4 zl zf
    have HK := HK3
    have b0 := HB3.out.cell 0 _ rfl
    have b1 := HB3.out.cell 1 _ rfl
    have b2 := HB3.out.cell 2 _ rfl
    have b3 := HB3.out.cell 3 _ rfl
    have b4 := HB3.out.cell 4 _ rfl
    have bl := HB3.out.lt
    have bf := HB3.out.frozen
    have z0 := HZ3.out.cell 0 _ rfl
    have z1 := HZ3.out.cell 1 _ rfl
    have z2 := HZ3.out.cell 2 _ rfl
    have z3 := HZ3.out.cell 3 _ rfl
    have z4 := HZ3.out.cell 4 _ rfl
    have zl := HZ3.out.lt
    have zf := HZ3.out.frozen
    go_wp2_with fail
    refine bodyPost_ret (v := .tuple #[.agg #[.int .i64 xid, .slice ya dlen ycap, .slice xia xn xcap, .int .i64 xlife, .int .i64 xwant], .int .i64 0]) (by simp [results, Try.results40, go_sem, *]) rfl ⟨⟨xid, ⟨ya, dlen, ycap, dl⟩, xia, xn, xcap, xms, xlife, xwant⟩, rfl, ?_, ?_, ?_⟩
    · rw [HP.out, ← HXP.out]; rfl
    · refine RCni.Own.mono (base := w.heap.size + 1 + 1) (RCni.Own.same (w := w3) (E := w3.heap.size) (RCni.Own.withO (c := ⟨xid, ⟨xoa, xolen, xocap, xol⟩, xia, xn, xcap, xms, xlife, xwant⟩) HO3.out ⟨ya, dlen, ycap, dl⟩ HYI.out (fun h0 a ha => ?_)) ?_ (Nat.le_refl _)) (by omega)
      · have h1 := HYF.out a ha
        refine ⟨by omega, fun e => ?_⟩
        have h2 := HO2.out.ownLt _ e
        omega
      · repeat (first | with_reducible exact SameOn.refl _ _ _ | with_reducible refine SameOn.setCell ?_ (by omega) _ _ | with_reducible refine SameOn.alloc ?_ (by simp) _)
    · repeat (first | with_reducible exact HK.out | with_reducible refine Keeps.setCell ?_ (by simp <;> omega) _ | with_reducible refine Keeps.alloc ?_ _)
end Go.Proofs.Ytcophhdlcjemeaa
