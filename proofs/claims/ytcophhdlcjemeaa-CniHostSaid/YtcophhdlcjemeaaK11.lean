/- The walks of layer 12, 11: Deliver. -/
import Derived.Test.YtcophhdlcjemeaaK7
import Derived.Deep.DeepCutAuto
namespace Go.Proofs.Ytcophhdlcjemeaa
open Go.RowKit
set_option linter.unusedVariables false
set_option linter.unusedSimpArgs false
def delivP (p : PCni) (slot : Int) (l : List Nat) : PCni := cond (cniOk p) (cond (betw slot 0 (p.ms.length - 1)) (cond (decide (l.length ≤ 8)) { p with ms := p.ms.set slot.toNat (l, 0) } PCni.zero) PCni.zero) PCni.zero
def delivE (p : PCni) (slot : Int) (l : List Nat) : Int := cond (cniOk p) (cond (betw slot 0 (p.ms.length - 1)) (cond (decide (l.length ≤ 8)) 0 3) 2) 120
set_option maxRecDepth 100000 in
set_option maxHeartbeats 4000000 in
theorem deliver_any (c : RCni) (slot : Int) (d : RY) (w : World) (hc : c.In w) (hd : d.In w) : Calls Try.prog 24 #[c.val, .int .i64 slot, .slice d.a d.len d.cap] w (CniPost (delivP c.p slot d.l) (delivE c.p slot d.l) w) := by
  have HD := Lib.hid hd
  have hdl := hd.row.1
  have hd63 := Nat.le_trans hd.cap hd.max
  clear hd
  have hcn := hc.m.len
  have HML := Lib.hid (show c.p.ms.length = c.n by unfold RCni.p; rw [List.length_map]; exact hcn)
  have HSB := Lib.hid (fun h : betw slot 0 ((c.p.ms.length : Int) - 1) = true => (betw_iff _ _ _).1 h)
  have HOW : Hid (∀ w, c.In w → Calls Try.prog 59 #[c.val] w (CniPost (ownP c.p) (cond (cniOk c.p) 0 120) w)) := Lib.hid (own_any c)
  have HOK := Lib.hid (fun h => (cniOk_iff c.p).1 h)
  have HQ : Hid (ownP c.p = cond (cniOk c.p) c.p PCni.zero) := Lib.hid rfl
  have HP : Hid (delivP c.p slot d.l = cond (cniOk c.p) (cond (betw slot 0 (c.p.ms.length - 1)) (cond (decide (d.l.length ≤ 8)) { ownP c.p with ms := (ownP c.p).ms.set slot.toNat (d.l, 0) } PCni.zero) PCni.zero) PCni.zero) := Lib.hid (by unfold delivP ownP; cases cniOk c.p <;> rfl)
  have HE : Hid (delivE c.p slot d.l = cond (cniOk c.p) (cond (betw slot 0 (c.p.ms.length - 1)) (cond (decide (d.l.length ≤ 8)) 0 3) 2) 120) := Lib.hid (by unfold delivE; cases cniOk c.p <;> rfl)
  obtain ⟨P, hP⟩ : ∃ P, P = delivP c.p slot d.l := ⟨_, rfl⟩
  obtain ⟨E, hE⟩ : ∃ E, E = delivE c.p slot d.l := ⟨_, rfl⟩
  obtain ⟨Q, hQ⟩ : ∃ Q, Q = ownP c.p := ⟨_, rfl⟩
  obtain ⟨O, hO⟩ : ∃ O, O = cniOk c.p := ⟨_, rfl⟩
  rw [← hO, ← hQ] at HOW
  rw [← hO, ← hQ] at HQ
  rw [← hO] at HOK
  rw [← hP, ← hO, ← hQ] at HP
  rw [← hE, ← hO] at HE
  rw [← hP, ← hE]
  clear hP hE hQ hO
  rw [hdl] at HP HE
  rw [HML.out] at HP HE HSB
  obtain ⟨da, dlen, dcap, dl⟩ := d
  simp only at hdl hd63 HP HE HD
  have HDL := Lib.hid hdl
  clear hdl hcn
  have HC := Lib.hid hc
  clear hc
  obtain ⟨id, ⟨oa, olen, ocap, ol⟩, ia, n, cap, ms, life, want⟩ := c
  have HK := Lib.hid (((Keeps.refl w).alloc (.cells #[.int .i64 id, .slice oa olen ocap, .slice ia n cap, .int .i64 life, .int .i64 want] 39)).alloc (.cells #[.int .i64 0, .slice none 0 0, .slice none 0 0, .int .i64 0, .int .i64 0] 39))
  have HB := Lib.hid ((Box.new w 39 #[.int .i64 id, .slice oa olen ocap, .slice ia n cap, .int .i64 life, .int .i64 want]).next (.cells #[.int .i64 0, .slice none 0 0, .slice none 0 0, .int .i64 0, .int .i64 0] 39))
  have hz := Box.new (w.alloc (.cells #[.int .i64 id, .slice oa olen ocap, .slice ia n cap, .int .i64 life, .int .i64 want] 39)) 39 #[.int .i64 0, .slice none 0 0, .slice none 0 0, .int .i64 0, .int .i64 0]
  rw [World.size_alloc] at hz
  have HZ := Lib.hid hz
  clear hz
  show Calls Try.prog 24 #[.agg #[.int .i64 id, .slice oa olen ocap, .slice ia n cap, .int .i64 life, .int .i64 want], .int .i64 slot, .slice da dlen dcap] w _
  cases O
  · simp only [cond_false] at HOW HP HE
    obtain rfl : E = 120 := HE.out
    go_enter Try.func24, Try.ntmps24
    go_wp2_with fail
    (with_reducible refine (HOW.out _ (by exact HC.out.keeps HK.out)).mono ?_)
    rintro e w1 ⟨x, rfl, hp, ho, hk1⟩
    have HO : Hid (RCni.Own x w1 (w.heap.size + 1 + 1)) := Lib.hid (by have h := ho; simp only [World.size_alloc] at h; exact h)
    have HXP := Lib.hid hp
    replace HB := Lib.hid (HB.out.keeps hk1)
    replace HZ := Lib.hid (HZ.out.keeps hk1)
    replace HK := Lib.hid (HK.out.trans hk1)
    have HK1 := HK
    have hwz : w.heap.size + 1 < w1.heap.size := HZ.out.lt
    clear hk1 ho hp
    have z0 := HZ.out.cell 0 _ rfl
    have z1 := HZ.out.cell 1 _ rfl
    have z2 := HZ.out.cell 2 _ rfl
    have z3 := HZ.out.cell 3 _ rfl
    have z4 := HZ.out.cell 4 _ rfl
    have zl := HZ.out.lt
    have zf := HZ.out.frozen
    have b0 := HB.out.cell 0 _ rfl
    have b1 := HB.out.cell 1 _ rfl
    have b2 := HB.out.cell 2 _ rfl
    have b3 := HB.out.cell 3 _ rfl
    have b4 := HB.out.cell 4 _ rfl
    have bl := HB.out.lt
    have bf := HB.out.frozen
    obtain ⟨xid, ⟨xoa, xolen, xocap, xol⟩, xia, xn, xcap, xms, xlife, xwant⟩ := x
    have HX := Lib.hid (Box.new w1 39 #[.int .i64 xid, .slice xoa xolen xocap, .slice xia xn xcap, .int .i64 xlife, .int .i64 xwant])
    replace HB := Lib.hid (HB.out.next (.cells #[.int .i64 xid, .slice xoa xolen xocap, .slice xia xn xcap, .int .i64 xlife, .int .i64 xwant] 39))
    replace HZ := Lib.hid (HZ.out.next (.cells #[.int .i64 xid, .slice xoa xolen xocap, .slice xia xn xcap, .int .i64 xlife, .int .i64 xwant] 39))
    replace HK := Lib.hid (HK.out.alloc (.cells #[.int .i64 xid, .slice xoa xolen xocap, .slice xia xn xcap, .int .i64 xlife, .int .i64 xwant] 39))
    go_wp2_with fail
    refine bodyPost_ret (v := .tuple #[.agg #[.int .i64 0, .slice none 0 0, .slice none 0 0, .int .i64 0, .int .i64 0], .int .i64 120]) (by simp [results, Try.results24, go_sem, *]) rfl ⟨RCni.zero, rfl, HP.out.symm, RCni.zero_own _ _, ?_⟩
    repeat (first | with_reducible exact HK.out | with_reducible exact HK1.out | with_reducible refine Keeps.setCell ?_ (by simp <;> omega) _ | with_reducible refine Keeps.alloc ?_ _)
  simp only [cond_true] at HOW HP HE HQ
  have HOK2 := Lib.hid (HOK.out (by first | rfl | trivial))
  have hn48 := HOK2.out.1
  rw [HML.out] at hn48
  simp only at hn48
  have HW := Lib.hid (within12_any slot 0 ((n : Int) - 1))
  obtain ⟨B, hB⟩ : ∃ B, B = betw slot 0 ((n : Int) - 1) := ⟨_, rfl⟩
  rw [← hB] at HP HE HW HSB
  have hw1 : IntKind.i64.wrap ((n : Int) - 1) = (n : Int) - 1 := by simp [IntKind.wrap, IntKind.bits, IntKind.signed]; omega
  clear hB HOK
  cases B
  · simp only [cond_false] at HP HE
    obtain rfl : E = 2 := HE.out
    go_enter Try.func24, Try.ntmps24
    go_wp2_with fail
    (with_reducible refine (HOW.out _ (by exact HC.out.keeps HK.out)).mono ?_)
    rintro e w1 ⟨x, rfl, hp, ho, hk1⟩
    have HO : Hid (RCni.Own x w1 (w.heap.size + 1 + 1)) := Lib.hid (by have h := ho; simp only [World.size_alloc] at h; exact h)
    have HXP := Lib.hid hp
    replace HB := Lib.hid (HB.out.keeps hk1)
    replace HZ := Lib.hid (HZ.out.keeps hk1)
    replace HK := Lib.hid (HK.out.trans hk1)
    have HK1 := HK
    have hwz : w.heap.size + 1 < w1.heap.size := HZ.out.lt
    clear hk1 ho hp
    have z0 := HZ.out.cell 0 _ rfl
    have z1 := HZ.out.cell 1 _ rfl
    have z2 := HZ.out.cell 2 _ rfl
    have z3 := HZ.out.cell 3 _ rfl
    have z4 := HZ.out.cell 4 _ rfl
    have zl := HZ.out.lt
    have zf := HZ.out.frozen
    have b0 := HB.out.cell 0 _ rfl
    have b1 := HB.out.cell 1 _ rfl
    have b2 := HB.out.cell 2 _ rfl
    have b3 := HB.out.cell 3 _ rfl
    have b4 := HB.out.cell 4 _ rfl
    have bl := HB.out.lt
    have bf := HB.out.frozen
    obtain ⟨xid, ⟨xoa, xolen, xocap, xol⟩, xia, xn, xcap, xms, xlife, xwant⟩ := x
    have HX := Lib.hid (Box.new w1 39 #[.int .i64 xid, .slice xoa xolen xocap, .slice xia xn xcap, .int .i64 xlife, .int .i64 xwant])
    replace HB := Lib.hid (HB.out.next (.cells #[.int .i64 xid, .slice xoa xolen xocap, .slice xia xn xcap, .int .i64 xlife, .int .i64 xwant] 39))
    replace HZ := Lib.hid (HZ.out.next (.cells #[.int .i64 xid, .slice xoa xolen xocap, .slice xia xn xcap, .int .i64 xlife, .int .i64 xwant] 39))
    replace HK := Lib.hid (HK.out.alloc (.cells #[.int .i64 xid, .slice xoa xolen xocap, .slice xia xn xcap, .int .i64 xlife, .int .i64 xwant] 39))
    go_wp2_with fail
    (with_reducible refine (HW.out _).mono ?_)
    rintro e w2 ⟨rfl, rfl⟩
    go_wp2_with fail
    refine bodyPost_ret (v := .tuple #[.agg #[.int .i64 0, .slice none 0 0, .slice none 0 0, .int .i64 0, .int .i64 0], .int .i64 2]) (by simp [results, Try.results24, go_sem, *]) rfl ⟨RCni.zero, rfl, HP.out.symm, RCni.zero_own _ _, ?_⟩
    repeat (first | with_reducible exact HK.out | with_reducible exact HK1.out | with_reducible refine Keeps.setCell ?_ (by simp <;> omega) _ | with_reducible refine Keeps.alloc ?_ _)
  simp only [cond_true] at HP HE
  by_cases t1 : dlen ≤ 8
  case neg =>
    have d1 : decide (8 < dlen) = true := by simpa using t1
    have d2 : decide ((8 : Int) < (dlen : Int)) = true := by simp; omega
    rw [decide_eq_false t1] at HP HE
    simp only [cond_false] at HP HE
    obtain rfl : E = 3 := HE.out
    go_enter Try.func24, Try.ntmps24
    go_wp2_with fail
    (with_reducible refine (HOW.out _ (by exact HC.out.keeps HK.out)).mono ?_)
    rintro e w1 ⟨x, rfl, hp, ho, hk1⟩
    have HO : Hid (RCni.Own x w1 (w.heap.size + 1 + 1)) := Lib.hid (by have h := ho; simp only [World.size_alloc] at h; exact h)
    have HXP := Lib.hid hp
    replace HB := Lib.hid (HB.out.keeps hk1)
    replace HZ := Lib.hid (HZ.out.keeps hk1)
    replace HK := Lib.hid (HK.out.trans hk1)
    have HK1 := HK
    have hwz : w.heap.size + 1 < w1.heap.size := HZ.out.lt
    clear hk1 ho hp
    have z0 := HZ.out.cell 0 _ rfl
    have z1 := HZ.out.cell 1 _ rfl
    have z2 := HZ.out.cell 2 _ rfl
    have z3 := HZ.out.cell 3 _ rfl
    have z4 := HZ.out.cell 4 _ rfl
    have zl := HZ.out.lt
    have zf := HZ.out.frozen
    have b0 := HB.out.cell 0 _ rfl
    have b1 := HB.out.cell 1 _ rfl
    have b2 := HB.out.cell 2 _ rfl
    have b3 := HB.out.cell 3 _ rfl
    have b4 := HB.out.cell 4 _ rfl
    have bl := HB.out.lt
    have bf := HB.out.frozen
    obtain ⟨xid, ⟨xoa, xolen, xocap, xol⟩, xia, xn, xcap, xms, xlife, xwant⟩ := x
    have HX := Lib.hid (Box.new w1 39 #[.int .i64 xid, .slice xoa xolen xocap, .slice xia xn xcap, .int .i64 xlife, .int .i64 xwant])
    replace HB := Lib.hid (HB.out.next (.cells #[.int .i64 xid, .slice xoa xolen xocap, .slice xia xn xcap, .int .i64 xlife, .int .i64 xwant] 39))
    replace HZ := Lib.hid (HZ.out.next (.cells #[.int .i64 xid, .slice xoa xolen xocap, .slice xia xn xcap, .int .i64 xlife, .int .i64 xwant] 39))
    replace HK := Lib.hid (HK.out.alloc (.cells #[.int .i64 xid, .slice xoa xolen xocap, .slice xia xn xcap, .int .i64 xlife, .int .i64 xwant] 39))
    go_wp2_with fail
    (with_reducible refine (HW.out _).mono ?_)
    rintro e w2 ⟨rfl, rfl⟩
    go_wp2_with fail
    refine bodyPost_ret (v := .tuple #[.agg #[.int .i64 0, .slice none 0 0, .slice none 0 0, .int .i64 0, .int .i64 0], .int .i64 3]) (by simp [results, Try.results24, go_sem, *]) rfl ⟨RCni.zero, rfl, HP.out.symm, RCni.zero_own _ _, ?_⟩
    repeat (first | with_reducible exact HK.out | with_reducible exact HK1.out | with_reducible refine Keeps.setCell ?_ (by simp <;> omega) _ | with_reducible refine Keeps.alloc ?_ _)
  have d1 : decide (8 < dlen) = false := by simpa using t1
  have d2 : decide ((8 : Int) < (dlen : Int)) = false := by simp; omega
  rw [decide_eq_true t1] at HP HE
  simp only [cond_true] at HP HE
  obtain rfl : E = 0 := HE.out
  have hsb := HSB.out (by first | rfl | trivial)
  obtain ⟨k, rfl⟩ : ∃ k : Nat, slot = k := ⟨slot.toNat, by omega⟩
  go_enter Try.func24, Try.ntmps24
  go_wp2_with fail
  (with_reducible refine (HOW.out _ (by exact HC.out.keeps HK.out)).mono ?_)
  rintro e w1 ⟨x, rfl, hp, ho, hk1⟩
  have HO : Hid (RCni.Own x w1 (w.heap.size + 1 + 1)) := Lib.hid (by have h := ho; simp only [World.size_alloc] at h; exact h)
  have HXP := Lib.hid hp
  replace HB := Lib.hid (HB.out.keeps hk1)
  replace HZ := Lib.hid (HZ.out.keeps hk1)
  replace HK := Lib.hid (HK.out.trans hk1)
  have HK1 := HK
  have hwz : w.heap.size + 1 < w1.heap.size := HZ.out.lt
  clear hk1 ho hp
  have z0 := HZ.out.cell 0 _ rfl
  have z1 := HZ.out.cell 1 _ rfl
  have z2 := HZ.out.cell 2 _ rfl
  have z3 := HZ.out.cell 3 _ rfl
  have z4 := HZ.out.cell 4 _ rfl
  have zl := HZ.out.lt
  have zf := HZ.out.frozen
  have b0 := HB.out.cell 0 _ rfl
  have b1 := HB.out.cell 1 _ rfl
  have b2 := HB.out.cell 2 _ rfl
  have b3 := HB.out.cell 3 _ rfl
  have b4 := HB.out.cell 4 _ rfl
  have bl := HB.out.lt
  have bf := HB.out.frozen
  obtain ⟨xid, ⟨xoa, xolen, xocap, xol⟩, xia, xn, xcap, xms, xlife, xwant⟩ := x
  have HX := Lib.hid (Box.new w1 39 #[.int .i64 xid, .slice xoa xolen xocap, .slice xia xn xcap, .int .i64 xlife, .int .i64 xwant])
  replace HB := Lib.hid (HB.out.next (.cells #[.int .i64 xid, .slice xoa xolen xocap, .slice xia xn xcap, .int .i64 xlife, .int .i64 xwant] 39))
  replace HZ := Lib.hid (HZ.out.next (.cells #[.int .i64 xid, .slice xoa xolen xocap, .slice xia xn xcap, .int .i64 xlife, .int .i64 xwant] 39))
  replace HK := Lib.hid (HK.out.alloc (.cells #[.int .i64 xid, .slice xoa xolen xocap, .slice xia xn xcap, .int .i64 xlife, .int .i64 xwant] 39))
  go_wp2_with fail
  (with_reducible refine (HW.out _).mono ?_)
  rintro e w2 ⟨rfl, rfl⟩
  obtain ⟨hxl, hxc, hxm, hxg⟩ := HO.out.row
  have HQL : Hid (Q.ms = xms.map RMsg.p) := Lib.hid (by rw [← HXP.out]; rfl)
  have hxn : xn = n := by
    have h := HML.out
    rw [← HQ.out, HQL.out, List.length_map] at h
    simp only at hxl h
    omega
  simp only at hxl hxc hxm hxg
  subst hxn
  obtain ⟨g, hia, hg1, hg2, hfz, hcell⟩ := hxg (by omega)
  subst hia
  have HXL := Lib.hid hxl
  have hkx : k < xms.length := by omega
  obtain ⟨hc0, hc1⟩ := hcell k hkx
  have HPX : Hid (∀ y : RY, y.l = dl → ((xms.set k ⟨y, xms[k].age⟩).set k ⟨y, 0⟩).map RMsg.p = (xms.map RMsg.p).set k (dl, 0)) := Lib.hid (fun y hy => by rw [List.set_set, List.map_set]; simp [RMsg.p, hy])
  have hkx2 : ∀ y : RY, k < (xms.set k ⟨y, xms[k].age⟩).length := fun y => by rw [List.length_set]; exact hkx
  have HDA := Lib.hid (fun (W : World) (h : RCni.Own ⟨xid, ⟨xoa, xolen, xocap, xol⟩, some ⟨g, 0, none⟩, xn, xcap, xms, xlife, xwant⟩ W (w.heap.size + 1 + 1)) (y : RY) (hy : y.In W) (hb : 0 < y.len → ∀ a, y.a = some a → w.heap.size + 1 + 1 ≤ a.block ∧ a.block ≠ g) => by
    have h1 := h.dat rfl hxl k hkx y hy hb
    have h2 := h1.age rfl (by simp only [List.length_set]; exact hxl) k (by simp only [List.length_set]; exact hkx) 0
    simp only [List.getElem_set_self] at h2
    exact h2)
  have hkn : k < xn := by omega
  obtain ⟨age, hage⟩ : ∃ age, age = xms[k].age := ⟨_, rfl⟩
  obtain ⟨od, hod⟩ : ∃ od, od = xms[k].d := ⟨_, rfl⟩
  simp only [← hage, ← hod] at hc0 hc1 HDA HPX
  clear hcell hxg hxl hkx2 hage hod
  obtain ⟨W1, hW1⟩ : ∃ W1, W1 = w1.alloc (.cells #[.int .i64 xid, .slice xoa xolen xocap, .slice (some ⟨g, 0, none⟩) xn xcap, .int .i64 xlife, .int .i64 xwant] 39) := ⟨_, rfl⟩
  have hk0 : Keeps w1 W1 := by rw [hW1]; exact (Keeps.refl _).alloc _
  have HSA : Hid (SameOn (w.heap.size + 1 + 1) w1.heap.size w1 W1) := Lib.hid (by rw [hW1]; exact (SameOn.refl _ _ _).alloc (Nat.le_refl _) _)
  have hsW : W1.heap.size = w1.heap.size + 1 := by rw [hW1]; simp
  rw [← hW1] at HX HB HZ HK ⊢
  have hc0' := hk0.later hc0
  have hc1' := hk0.later hc1
  have hz0 := hk0.frozen g (k * 2) hg2
  have hz1 := hk0.frozen g (k * 2 + 1) hg2
  rw [hfz] at hz0 hz1
  obtain ⟨X, hX⟩ : ∃ X, X = w1.heap.size := ⟨_, rfl⟩
  rw [← hX] at HX HSA hsW hg2 hwz ⊢
  have HO3 : Hid (RCni.Own ⟨xid, ⟨xoa, xolen, xocap, xol⟩, some ⟨g, 0, none⟩, xn, xcap, xms, xlife, xwant⟩ W1 (w.heap.size + 1 + 1)) := Lib.hid (HO.out.same HSA.out (by omega))
  have HKN := Lib.hid (Keeps.refl W1)
  have HKX := HK
  clear hW1 hk0 hX hfz hc0 hc1 z0 z1 z2 z3 z4 zl zf b0 b1 b2 b3 b4 bl bf HK1
  have x0 := HX.out.cell 0 _ rfl
  have x1 := HX.out.cell 1 _ rfl
  have x2 := HX.out.cell 2 _ rfl
  have x3 := HX.out.cell 3 _ rfl
  have x4 := HX.out.cell 4 _ rfl
  have xl := HX.out.lt
  have xf := HX.out.frozen
  have hgW : g < W1.heap.size := by omega
  have hgX : ¬ X = g := by omega
  have hgX2 : ¬ g = X := by omega
  go_upto_region 8 with fail
  go_cut [38] (fun v wx => ∃ y : RY, Hid (y.l = dl) ∧ Hid (RCni.Own ⟨xid, ⟨xoa, xolen, xocap, xol⟩, some ⟨g, 0, none⟩, xn, xcap, (xms.set k ⟨y, age⟩).set k ⟨y, 0⟩, xlife, xwant⟩ wx (w.heap.size + 1 + 1)) ∧ Hid (Box wx X 39 #[.int .i64 xid, .slice xoa xolen xocap, .slice (some ⟨g, 0, none⟩) xn xcap, .int .i64 xlife, .int .i64 xwant]) ∧ Hid (Box wx (w.heap.size + 1) 39 #[.int .i64 0, .slice none 0 0, .slice none 0 0, .int .i64 0, .int .i64 0]) ∧ Hid (Keeps w wx))
  case first =>
    go_region_held3 (fun w' => w'.cell? ⟨X, 2, none⟩ = some (.slice (some ⟨g, 0, none⟩) xn xcap))
      ((first | (refine Keeps.later (a := W1) ?_ x2; solve | (repeat (first | with_reducible exact HKN.out | with_reducible refine Keeps.setCell ?_ hng _ | with_reducible refine Keeps.alloc ?_ _ | with_reducible refine Keeps.drew ?_))) | (have hxx := Keeps.later HKN.out x2; simp [go_sem, hxx, hgX, hgX2])))
      (first | (go_at_call 60; (with_reducible refine (cloneY ⟨da, dlen, dcap, dl⟩ _ (HD.out.keeps (HKX.out.trans (by repeat (first | with_reducible exact HKN.out | with_reducible refine Keeps.setCell ?_ hng _ | with_reducible refine Keeps.alloc ?_ _ | with_reducible refine Keeps.drew ?_)))) (by simp only; omega)).mono ?_); rintro e u ⟨y, rfl, hyl, hyn, hyi, hyf, hk⟩; have HKM := Lib.hid (Keeps.trans (show Keeps W1 _ by repeat (first | with_reducible exact HKN.out | with_reducible refine Keeps.setCell ?_ hng _ | with_reducible refine Keeps.alloc ?_ _ | with_reducible refine Keeps.drew ?_)) hk); have hyn' : y.len = dlen := hyn; have HYL := Lib.hid hyl; have HYI := Lib.hid hyi; have HYF : Hid (∀ a, y.a = some a → W1.heap.size ≤ a.block) := Lib.hid (fun a ha => by have := hyf a ha; simp at this; omega); clear hk HKN hyl hyi hyf; have HKN := HKM; clear HKM; have hcc0 := Keeps.later HKN.out hc0'; have hcc1 := Keeps.later HKN.out hc1'; have hff0 := (Keeps.frozen HKN.out g (k * 2) hgW).trans hz0; have hff1 := (Keeps.frozen HKN.out g (k * 2 + 1) hgW).trans hz1))
    all_goals
      go_wp2_with fail
      go_meet
      have hO4 := HDA.out _ (HO3.out.keeps HKN.out) y HYI.out (fun h0 a ha => by have := HYF.out a ha; omega)
      have hX4 := ((HX.out.keeps HKN.out).keepsBut (KeepsBut.setCell _ g (k * 2) (.slice y.a y.len y.cap)) hgX).keepsBut (KeepsBut.setCell _ g (k * 2 + 1) (.int .i64 0)) hgX
      have hZ4 := ((HZ.out.keeps HKN.out).keepsBut (KeepsBut.setCell _ g (k * 2) (.slice y.a y.len y.cap)) (by omega)).keepsBut (KeepsBut.setCell _ g (k * 2 + 1) (.int .i64 0)) (by omega)
      have hK4 := ((HKX.out.trans HKN.out).setCell (show w.heap.size ≤ g by omega) (p := ⟨g, k * 2, none⟩) (.slice y.a y.len y.cap)).setCell (show w.heap.size ≤ g by omega) (p := ⟨g, k * 2 + 1, none⟩) (.int .i64 0)
      rw [hyn'] at hO4 hX4 hZ4 hK4
      exact ⟨y, HYL, Lib.hid hO4, Lib.hid hX4, Lib.hid hZ4, Lib.hid hK4⟩
  case rest =>
    obtain ⟨y, HYL, HO4, HX4, HZ4, HK4⟩ := hcut
    clear x0 x1 x2 x3 x4 xl xf hc0' hc1' hz0 hz1 HX HZ HK HKN HKX HO3 HSA HDA
    have HX := HX4
    have HZ := HZ4
    have HK := HK4
    have HK1 := HK
    have x0 := HX.out.cell 0 _ rfl
    have x1 := HX.out.cell 1 _ rfl
    have x2 := HX.out.cell 2 _ rfl
    have x3 := HX.out.cell 3 _ rfl
    have x4 := HX.out.cell 4 _ rfl
    have xl := HX.out.lt
    have xf := HX.out.frozen
    have z0 := HZ.out.cell 0 _ rfl
    have z1 := HZ.out.cell 1 _ rfl
    have z2 := HZ.out.cell 2 _ rfl
    have z3 := HZ.out.cell 3 _ rfl
    have z4 := HZ.out.cell 4 _ rfl
    have zl := HZ.out.lt
    have zf := HZ.out.frozen
    go_wp2_with fail
    refine bodyPost_ret (v := .tuple #[.agg #[.int .i64 xid, .slice xoa xolen xocap, .slice (some ⟨g, 0, none⟩) xn xcap, .int .i64 xlife, .int .i64 xwant], .int .i64 0]) (by simp [results, Try.results24, go_sem, *]) rfl ⟨⟨xid, ⟨xoa, xolen, xocap, xol⟩, some ⟨g, 0, none⟩, xn, xcap, (xms.set k ⟨y, age⟩).set k ⟨y, 0⟩, xlife, xwant⟩, rfl, ?_, ?_, ?_⟩
    · rw [HP.out, HQL.out, ← HXP.out]
      have h := HPX.out y HYL.out
      simp only [RCni.p]
      rw [h]; rfl
    · refine RCni.Own.mono (base := w.heap.size + 1 + 1) (RCni.Own.boxed HO4.out HX.out ?_) (by omega)
      repeat (first | with_reducible exact SameS.refl _ _ | with_reducible refine SameS.setCell ?_ (fun k hk => by omega) _ _)
    · repeat (first | with_reducible exact HK.out | with_reducible refine Keeps.setCell ?_ (by simp <;> omega) _)
end Go.Proofs.Ytcophhdlcjemeaa
