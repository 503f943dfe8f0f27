/- The walks of layer 12, 6: Write, Ask. -/
import Derived.Test.YtcophhdlcjemeaaK5
namespace Go.Proofs.Ytcophhdlcjemeaa
open Go.RowKit
set_option linter.unusedVariables false
set_option linter.unusedSimpArgs false
def writeP (p : PCni) (l : List Nat) : PCni := cond (cniOk p) (cond (decide (l.length ≤ 8)) { p with o := l } PCni.zero) PCni.zero
def writeE (p : PCni) (l : List Nat) : Int := cond (cniOk p) (cond (decide (l.length ≤ 8)) 0 3) 120
set_option maxRecDepth 100000 in
set_option maxHeartbeats 2000000 in
theorem write_any (c : RCni) (d : RY) (w : World) (hc : c.In w) (hd : d.In w) : Calls Try.prog 15 #[c.val, .slice d.a d.len d.cap] w (CniPost (writeP c.p d.l) (writeE c.p d.l) w) := by
  have HD := Lib.hid hd
  have hdl := hd.row.1
  have hd63 := Nat.le_trans hd.cap hd.max
  clear hd
  have HOW : Hid (∀ w, c.In w → Calls Try.prog 59 #[c.val] w (CniPost (ownP c.p) (cond (cniOk c.p) 0 120) w)) := Lib.hid (own_any c)
  have HOK := Lib.hid (fun h => (cniOk_iff c.p).1 h)
  have HQ : Hid (ownP c.p = cond (cniOk c.p) c.p PCni.zero) := Lib.hid rfl
  have HP : Hid (writeP c.p d.l = cond (cniOk c.p) (cond (decide (d.l.length ≤ 8)) { ownP c.p with o := d.l } PCni.zero) PCni.zero) := Lib.hid (by unfold writeP ownP; cases cniOk c.p <;> rfl)
  have HE : Hid (writeE c.p d.l = cond (cniOk c.p) (cond (decide (d.l.length ≤ 8)) 0 3) 120) := Lib.hid (by unfold writeE; cases cniOk c.p <;> rfl)
  obtain ⟨P, hP⟩ : ∃ P, P = writeP c.p d.l := ⟨_, rfl⟩
  obtain ⟨E, hE⟩ : ∃ E, E = writeE c.p d.l := ⟨_, rfl⟩
  obtain ⟨Q, hQ⟩ : ∃ Q, Q = ownP c.p := ⟨_, rfl⟩
  obtain ⟨O, hO⟩ : ∃ O, O = cniOk c.p := ⟨_, rfl⟩
  rw [← hO, ← hQ] at HOW
  rw [← hO, ← hQ] at HQ
  rw [← hO] at HOK
  rw [← hP, ← hO, ← hQ] at HP
  rw [← hE, ← hO] at HE
  rw [← hP, ← hE]
  clear hP hE hQ hO
  rw [hdl] at HP HE
  obtain ⟨da, dlen, dcap, dl⟩ := d
  simp only at hdl hd63 HP HE HD
  clear hdl
  have HC := Lib.hid hc
  clear hc
  obtain ⟨id, ⟨oa, olen, ocap, ol⟩, ia, n, cap, ms, life, want⟩ := c
  have HK := Lib.hid (((Keeps.refl w).alloc (.cells #[.int .i64 id, .slice oa olen ocap, .slice ia n cap, .int .i64 life, .int .i64 want] 39)).alloc (.cells #[.int .i64 0, .slice none 0 0, .slice none 0 0, .int .i64 0, .int .i64 0] 39))
  have HB := Lib.hid ((Box.new w 39 #[.int .i64 id, .slice oa olen ocap, .slice ia n cap, .int .i64 life, .int .i64 want]).next (.cells #[.int .i64 0, .slice none 0 0, .slice none 0 0, .int .i64 0, .int .i64 0] 39))
  have hz := Box.new (w.alloc (.cells #[.int .i64 id, .slice oa olen ocap, .slice ia n cap, .int .i64 life, .int .i64 want] 39)) 39 #[.int .i64 0, .slice none 0 0, .slice none 0 0, .int .i64 0, .int .i64 0]
  rw [World.size_alloc] at hz
  have HZ := Lib.hid hz
  clear hz
  show Calls Try.prog 15 #[.agg #[.int .i64 id, .slice oa olen ocap, .slice ia n cap, .int .i64 life, .int .i64 want], .slice da dlen dcap] w _
  cases O
  · simp only [cond_false] at HOW HP HE
    obtain rfl : E = 120 := HE.out
    go_enter Try.func15, Try.ntmps15
    go_wp2_with fail
    (with_reducible refine (HOW.out _ (by exact HC.out.keeps HK.out)).mono ?_)
    rintro e w1 ⟨x, rfl, hp, ho, hk1⟩
    have HO : Hid (RCni.Own x w1 (w.heap.size + 1 + 1)) := Lib.hid (by have h := ho; simp only [World.size_alloc] at h; exact h)
    have HXP := Lib.hid hp
    replace HB := Lib.hid (HB.out.keeps hk1)
    replace HZ := Lib.hid (HZ.out.keeps hk1)
    replace HK := Lib.hid (HK.out.trans hk1)
    have HK1 := HK
    have hwz : w.heap.size + 1 < w1.heap.size := HZ.out.lt
    clear hk1 ho hp
    have z0 := HZ.out.cell 0 _ rfl
    have z1 := HZ.out.cell 1 _ rfl
    have z2 := HZ.out.cell 2 _ rfl
    have z3 := HZ.out.cell 3 _ rfl
    have z4 := HZ.out.cell 4 _ rfl
    have zl := HZ.out.lt
    have zf := HZ.out.frozen
    have b0 := HB.out.cell 0 _ rfl
    have b1 := HB.out.cell 1 _ rfl
    have b2 := HB.out.cell 2 _ rfl
    have b3 := HB.out.cell 3 _ rfl
    have b4 := HB.out.cell 4 _ rfl
    have bl := HB.out.lt
    have bf := HB.out.frozen
    obtain ⟨xid, ⟨xoa, xolen, xocap, xol⟩, xia, xn, xcap, xms, xlife, xwant⟩ := x
    have HX := Lib.hid (Box.new w1 39 #[.int .i64 xid, .slice xoa xolen xocap, .slice xia xn xcap, .int .i64 xlife, .int .i64 xwant])
    replace HB := Lib.hid (HB.out.next (.cells #[.int .i64 xid, .slice xoa xolen xocap, .slice xia xn xcap, .int .i64 xlife, .int .i64 xwant] 39))
    replace HZ := Lib.hid (HZ.out.next (.cells #[.int .i64 xid, .slice xoa xolen xocap, .slice xia xn xcap, .int .i64 xlife, .int .i64 xwant] 39))
    replace HK := Lib.hid (HK.out.alloc (.cells #[.int .i64 xid, .slice xoa xolen xocap, .slice xia xn xcap, .int .i64 xlife, .int .i64 xwant] 39))
    go_wp2_with fail
    refine bodyPost_ret (v := .tuple #[.agg #[.int .i64 0, .slice none 0 0, .slice none 0 0, .int .i64 0, .int .i64 0], .int .i64 120]) (by simp [results, Try.results15, go_sem, *]) rfl ⟨RCni.zero, rfl, HP.out.symm, RCni.zero_own _ _, ?_⟩
    repeat (first | with_reducible exact HK.out | with_reducible exact HK1.out | with_reducible refine Keeps.setCell ?_ (by simp <;> omega) _ | with_reducible refine Keeps.alloc ?_ _)
  simp only [cond_true] at HOW HP HE
  by_cases t1 : dlen ≤ 8
  case neg =>
    have d1 : decide (8 < dlen) = true := by simpa using t1
    have d2 : decide ((8 : Int) < (dlen : Int)) = true := by simp; omega
    rw [decide_eq_false t1] at HP HE
    simp only [cond_false] at HP HE
    obtain rfl : E = 3 := HE.out
    go_enter Try.func15, Try.ntmps15
    go_wp2_with fail
    (with_reducible refine (HOW.out _ (by exact HC.out.keeps HK.out)).mono ?_)
    rintro e w1 ⟨x, rfl, hp, ho, hk1⟩
    have HO : Hid (RCni.Own x w1 (w.heap.size + 1 + 1)) := Lib.hid (by have h := ho; simp only [World.size_alloc] at h; exact h)
    have HXP := Lib.hid hp
    replace HB := Lib.hid (HB.out.keeps hk1)
    replace HZ := Lib.hid (HZ.out.keeps hk1)
    replace HK := Lib.hid (HK.out.trans hk1)
    have HK1 := HK
    have hwz : w.heap.size + 1 < w1.heap.size := HZ.out.lt
    clear hk1 ho hp
    have z0 := HZ.out.cell 0 _ rfl
    have z1 := HZ.out.cell 1 _ rfl
    have z2 := HZ.out.cell 2 _ rfl
    have z3 := HZ.out.cell 3 _ rfl
    have z4 := HZ.out.cell 4 _ rfl
    have zl := HZ.out.lt
    have zf := HZ.out.frozen
    have b0 := HB.out.cell 0 _ rfl
    have b1 := HB.out.cell 1 _ rfl
    have b2 := HB.out.cell 2 _ rfl
    have b3 := HB.out.cell 3 _ rfl
    have b4 := HB.out.cell 4 _ rfl
    have bl := HB.out.lt
    have bf := HB.out.frozen
    obtain ⟨xid, ⟨xoa, xolen, xocap, xol⟩, xia, xn, xcap, xms, xlife, xwant⟩ := x
    have HX := Lib.hid (Box.new w1 39 #[.int .i64 xid, .slice xoa xolen xocap, .slice xia xn xcap, .int .i64 xlife, .int .i64 xwant])
    replace HB := Lib.hid (HB.out.next (.cells #[.int .i64 xid, .slice xoa xolen xocap, .slice xia xn xcap, .int .i64 xlife, .int .i64 xwant] 39))
    replace HZ := Lib.hid (HZ.out.next (.cells #[.int .i64 xid, .slice xoa xolen xocap, .slice xia xn xcap, .int .i64 xlife, .int .i64 xwant] 39))
    replace HK := Lib.hid (HK.out.alloc (.cells #[.int .i64 xid, .slice xoa xolen xocap, .slice xia xn xcap, .int .i64 xlife, .int .i64 xwant] 39))
    go_wp2_with fail
    refine bodyPost_ret (v := .tuple #[.agg #[.int .i64 0, .slice none 0 0, .slice none 0 0, .int .i64 0, .int .i64 0], .int .i64 3]) (by simp [results, Try.results15, go_sem, *]) rfl ⟨RCni.zero, rfl, HP.out.symm, RCni.zero_own _ _, ?_⟩
    repeat (first | with_reducible exact HK.out | with_reducible exact HK1.out | with_reducible refine Keeps.setCell ?_ (by simp <;> omega) _ | with_reducible refine Keeps.alloc ?_ _)
  have d1 : decide (8 < dlen) = false := by simpa using t1
  have d2 : decide ((8 : Int) < (dlen : Int)) = false := by simp; omega
  rw [decide_eq_true t1] at HP HE
  simp only [cond_true] at HP HE
  obtain rfl : E = 0 := HE.out
  go_enter Try.func15, Try.ntmps15
  go_wp2_with fail
  (with_reducible refine (HOW.out _ (by exact HC.out.keeps HK.out)).mono ?_)
  rintro e w1 ⟨x, rfl, hp, ho, hk1⟩
  have HO : Hid (RCni.Own x w1 (w.heap.size + 1 + 1)) := Lib.hid (by have h := ho; simp only [World.size_alloc] at h; exact h)
  have HXP := Lib.hid hp
  replace HB := Lib.hid (HB.out.keeps hk1)
  replace HZ := Lib.hid (HZ.out.keeps hk1)
  replace HK := Lib.hid (HK.out.trans hk1)
  have HK1 := HK
  have hwz : w.heap.size + 1 < w1.heap.size := HZ.out.lt
  clear hk1 ho hp
  have z0 := HZ.out.cell 0 _ rfl
  have z1 := HZ.out.cell 1 _ rfl
  have z2 := HZ.out.cell 2 _ rfl
  have z3 := HZ.out.cell 3 _ rfl
  have z4 := HZ.out.cell 4 _ rfl
  have zl := HZ.out.lt
  have zf := HZ.out.frozen
  have b0 := HB.out.cell 0 _ rfl
  have b1 := HB.out.cell 1 _ rfl
  have b2 := HB.out.cell 2 _ rfl
  have b3 := HB.out.cell 3 _ rfl
  have b4 := HB.out.cell 4 _ rfl
  have bl := HB.out.lt
  have bf := HB.out.frozen
  obtain ⟨xid, ⟨xoa, xolen, xocap, xol⟩, xia, xn, xcap, xms, xlife, xwant⟩ := x
  have HX := Lib.hid (Box.new w1 39 #[.int .i64 xid, .slice xoa xolen xocap, .slice xia xn xcap, .int .i64 xlife, .int .i64 xwant])
  replace HB := Lib.hid (HB.out.next (.cells #[.int .i64 xid, .slice xoa xolen xocap, .slice xia xn xcap, .int .i64 xlife, .int .i64 xwant] 39))
  replace HZ := Lib.hid (HZ.out.next (.cells #[.int .i64 xid, .slice xoa xolen xocap, .slice xia xn xcap, .int .i64 xlife, .int .i64 xwant] 39))
  replace HK := Lib.hid (HK.out.alloc (.cells #[.int .i64 xid, .slice xoa xolen xocap, .slice xia xn xcap, .int .i64 xlife, .int .i64 xwant] 39))
  go_wp2_with fail
  (with_reducible refine (cloneY ⟨da, dlen, dcap, dl⟩ _ (by exact HD.out.keeps HK.out) (by simp only; omega)).mono ?_)
  rintro e w2 ⟨y, rfl, hyl, hyn, hyi, hyf, hk1⟩
  have HYI := Lib.hid hyi
  have hyf' : ∀ a, y.a = some a → w1.heap.size < a.block := fun a ha => by have := hyf a ha; simp at this; omega
  have HYF := Lib.hid hyf'
  have HYL := Lib.hid hyl
  have hw2 : w1.heap.size + 1 ≤ w2.heap.size := by have := hk1.size; simp at this; omega
  have HSA : Hid (SameOn (w.heap.size + 1 + 1) w1.heap.size w1 w2) := Lib.hid (((SameOn.refl _ _ _).alloc (Nat.le_refl _) _).keeps hk1 (by simp))
  replace HX := Lib.hid (HX.out.keeps hk1)
  replace HZ := Lib.hid (HZ.out.keeps hk1)
  replace HK := Lib.hid (HK.out.trans hk1)
  obtain ⟨ya, ylen, ycap, yl⟩ := y
  simp only at HYI HYF HYL hyn
  clear hk1 hyl hyi hyf hyf' z0 z1 z2 z3 z4 zl zf b0 b1 b2 b3 b4 bl bf HK1
  have HK1 := HK
  have x0 := HX.out.cell 0 _ rfl
  have x1 := HX.out.cell 1 _ rfl
  have x2 := HX.out.cell 2 _ rfl
  have x3 := HX.out.cell 3 _ rfl
  have x4 := HX.out.cell 4 _ rfl
  have xl := HX.out.lt
  have xf := HX.out.frozen
  have z0 := HZ.out.cell 0 _ rfl
  have z1 := HZ.out.cell 1 _ rfl
  have z2 := HZ.out.cell 2 _ rfl
  have z3 := HZ.out.cell 3 _ rfl
  have z4 := HZ.out.cell 4 _ rfl
  have zl := HZ.out.lt
  have zf := HZ.out.frozen
  subst hyn
  go_wp2_with fail
  have hb2 : w.heap.size + 1 + 1 ≤ w1.heap.size := hwz
  refine bodyPost_ret (v := .tuple #[.agg #[.int .i64 xid, .slice ya ylen ycap, .slice xia xn xcap, .int .i64 xlife, .int .i64 xwant], .int .i64 0]) (by simp [results, Try.results15, go_sem, *]) rfl ⟨⟨xid, ⟨ya, ylen, ycap, yl⟩, xia, xn, xcap, xms, xlife, xwant⟩, rfl, ?_, ?_, ?_⟩
  · rw [HP.out, ← HXP.out, ← HYL.out]; rfl
  · refine RCni.Own.mono (base := w.heap.size + 1 + 1) (RCni.Own.withO (c := ⟨xid, ⟨xoa, xolen, xocap, xol⟩, xia, xn, xcap, xms, xlife, xwant⟩) (HO.out.same (E := w1.heap.size) ?_ (Nat.le_refl _)) ⟨ya, ylen, ycap, yl⟩ ?_ (fun h0 a ha => ?_)) (by omega)
    · repeat (first | with_reducible exact HSA.out | with_reducible refine SameOn.setCell ?_ (by omega) _ _)
    · refine HYI.out.same (B := w1.heap.size + 1) (E := w2.heap.size) ?_ (Nat.le_refl _) (fun h0 a ha => HYF.out a ha)
      repeat (first | with_reducible exact SameOn.refl _ _ _ | with_reducible refine SameOn.setCell ?_ (by omega) _ _)
    · have h1 := HYF.out a ha
      refine ⟨by omega, fun e => ?_⟩
      have h2 := HO.out.ownLt _ e
      omega
  · repeat (first | with_reducible exact HK.out | with_reducible exact HK1.out | with_reducible refine Keeps.setCell ?_ (by simp <;> omega) _ | with_reducible refine Keeps.alloc ?_ _)
def askP (p : PCni) (mode : Int) : PCni := cond (cniOk p) (cond (betw mode (-1) 3) { p with want := mode } PCni.zero) PCni.zero
def askE (p : PCni) (mode : Int) : Int := cond (cniOk p) (cond (betw mode (-1) 3) 0 2) 120
set_option maxRecDepth 100000 in
set_option maxHeartbeats 2000000 in
theorem ask12_any (c : RCni) (mode : Int) (w : World) (hc : c.In w) : Calls Try.prog 42 #[c.val, .int .i64 mode] w (CniPost (askP c.p mode) (askE c.p mode) w) := by
  have HOW : Hid (∀ w, c.In w → Calls Try.prog 59 #[c.val] w (CniPost (ownP c.p) (cond (cniOk c.p) 0 120) w)) := Lib.hid (own_any c)
  have HOK := Lib.hid (fun h => (cniOk_iff c.p).1 h)
  have HQ : Hid (ownP c.p = cond (cniOk c.p) c.p PCni.zero) := Lib.hid rfl
  have HP : Hid (askP c.p mode = cond (cniOk c.p) (cond (betw mode (-1) 3) { ownP c.p with want := mode } PCni.zero) PCni.zero) := Lib.hid (by unfold askP ownP; cases cniOk c.p <;> rfl)
  have HE : Hid (askE c.p mode = cond (cniOk c.p) (cond (betw mode (-1) 3) 0 2) 120) := Lib.hid (by unfold askE; cases cniOk c.p <;> rfl)
  obtain ⟨P, hP⟩ : ∃ P, P = askP c.p mode := ⟨_, rfl⟩
  obtain ⟨E, hE⟩ : ∃ E, E = askE c.p mode := ⟨_, rfl⟩
  obtain ⟨Q, hQ⟩ : ∃ Q, Q = ownP c.p := ⟨_, rfl⟩
  obtain ⟨O, hO⟩ : ∃ O, O = cniOk c.p := ⟨_, rfl⟩
  rw [← hO, ← hQ] at HOW
  rw [← hO, ← hQ] at HQ
  rw [← hO] at HOK
  rw [← hP, ← hO, ← hQ] at HP
  rw [← hE, ← hO] at HE
  rw [← hP, ← hE]
  clear hP hE hQ hO
  have HW := Lib.hid (within12_any mode (-1) 3)
  obtain ⟨B, hB⟩ : ∃ B, B = betw mode (-1) 3 := ⟨_, rfl⟩
  rw [← hB] at HP HE HW
  clear hB
  have HC := Lib.hid hc
  clear hc
  obtain ⟨id, ⟨oa, olen, ocap, ol⟩, ia, n, cap, ms, life, want⟩ := c
  have HK := Lib.hid (((Keeps.refl w).alloc (.cells #[.int .i64 id, .slice oa olen ocap, .slice ia n cap, .int .i64 life, .int .i64 want] 39)).alloc (.cells #[.int .i64 0, .slice none 0 0, .slice none 0 0, .int .i64 0, .int .i64 0] 39))
  have HB := Lib.hid ((Box.new w 39 #[.int .i64 id, .slice oa olen ocap, .slice ia n cap, .int .i64 life, .int .i64 want]).next (.cells #[.int .i64 0, .slice none 0 0, .slice none 0 0, .int .i64 0, .int .i64 0] 39))
  have hz := Box.new (w.alloc (.cells #[.int .i64 id, .slice oa olen ocap, .slice ia n cap, .int .i64 life, .int .i64 want] 39)) 39 #[.int .i64 0, .slice none 0 0, .slice none 0 0, .int .i64 0, .int .i64 0]
  rw [World.size_alloc] at hz
  have HZ := Lib.hid hz
  clear hz
  show Calls Try.prog 42 #[.agg #[.int .i64 id, .slice oa olen ocap, .slice ia n cap, .int .i64 life, .int .i64 want], .int .i64 mode] w _
  cases O
  · simp only [cond_false] at HOW HP HE
    obtain rfl : E = 120 := HE.out
    go_enter Try.func42, Try.ntmps42
    go_wp2_with fail
    (with_reducible refine (HOW.out _ (by exact HC.out.keeps HK.out)).mono ?_)
    rintro e w1 ⟨x, rfl, hp, ho, hk1⟩
    have HO : Hid (RCni.Own x w1 (w.heap.size + 1 + 1)) := Lib.hid (by have h := ho; simp only [World.size_alloc] at h; exact h)
    have HXP := Lib.hid hp
    replace HB := Lib.hid (HB.out.keeps hk1)
    replace HZ := Lib.hid (HZ.out.keeps hk1)
    replace HK := Lib.hid (HK.out.trans hk1)
    have HK1 := HK
    have hwz : w.heap.size + 1 < w1.heap.size := HZ.out.lt
    clear hk1 ho hp
    have z0 := HZ.out.cell 0 _ rfl
    have z1 := HZ.out.cell 1 _ rfl
    have z2 := HZ.out.cell 2 _ rfl
    have z3 := HZ.out.cell 3 _ rfl
    have z4 := HZ.out.cell 4 _ rfl
    have zl := HZ.out.lt
    have zf := HZ.out.frozen
    have b0 := HB.out.cell 0 _ rfl
    have b1 := HB.out.cell 1 _ rfl
    have b2 := HB.out.cell 2 _ rfl
    have b3 := HB.out.cell 3 _ rfl
    have b4 := HB.out.cell 4 _ rfl
    have bl := HB.out.lt
    have bf := HB.out.frozen
    obtain ⟨xid, ⟨xoa, xolen, xocap, xol⟩, xia, xn, xcap, xms, xlife, xwant⟩ := x
    have HX := Lib.hid (Box.new w1 39 #[.int .i64 xid, .slice xoa xolen xocap, .slice xia xn xcap, .int .i64 xlife, .int .i64 xwant])
    replace HB := Lib.hid (HB.out.next (.cells #[.int .i64 xid, .slice xoa xolen xocap, .slice xia xn xcap, .int .i64 xlife, .int .i64 xwant] 39))
    replace HZ := Lib.hid (HZ.out.next (.cells #[.int .i64 xid, .slice xoa xolen xocap, .slice xia xn xcap, .int .i64 xlife, .int .i64 xwant] 39))
    replace HK := Lib.hid (HK.out.alloc (.cells #[.int .i64 xid, .slice xoa xolen xocap, .slice xia xn xcap, .int .i64 xlife, .int .i64 xwant] 39))
    go_wp2_with fail
    refine bodyPost_ret (v := .tuple #[.agg #[.int .i64 0, .slice none 0 0, .slice none 0 0, .int .i64 0, .int .i64 0], .int .i64 120]) (by simp [results, Try.results42, go_sem, *]) rfl ⟨RCni.zero, rfl, HP.out.symm, RCni.zero_own _ _, ?_⟩
    repeat (first | with_reducible exact HK.out | with_reducible exact HK1.out | with_reducible refine Keeps.setCell ?_ (by simp <;> omega) _ | with_reducible refine Keeps.alloc ?_ _)
  simp only [cond_true] at HOW HP HE
  cases B
  · simp only [cond_false] at HP HE
    obtain rfl : E = 2 := HE.out
    go_enter Try.func42, Try.ntmps42
    go_wp2_with fail
    (with_reducible refine (HOW.out _ (by exact HC.out.keeps HK.out)).mono ?_)
    rintro e w1 ⟨x, rfl, hp, ho, hk1⟩
    have HO : Hid (RCni.Own x w1 (w.heap.size + 1 + 1)) := Lib.hid (by have h := ho; simp only [World.size_alloc] at h; exact h)
    have HXP := Lib.hid hp
    replace HB := Lib.hid (HB.out.keeps hk1)
    replace HZ := Lib.hid (HZ.out.keeps hk1)
    replace HK := Lib.hid (HK.out.trans hk1)
    have HK1 := HK
    have hwz : w.heap.size + 1 < w1.heap.size := HZ.out.lt
    clear hk1 ho hp
    have z0 := HZ.out.cell 0 _ rfl
    have z1 := HZ.out.cell 1 _ rfl
    have z2 := HZ.out.cell 2 _ rfl
    have z3 := HZ.out.cell 3 _ rfl
    have z4 := HZ.out.cell 4 _ rfl
    have zl := HZ.out.lt
    have zf := HZ.out.frozen
    have b0 := HB.out.cell 0 _ rfl
    have b1 := HB.out.cell 1 _ rfl
    have b2 := HB.out.cell 2 _ rfl
    have b3 := HB.out.cell 3 _ rfl
    have b4 := HB.out.cell 4 _ rfl
    have bl := HB.out.lt
    have bf := HB.out.frozen
    obtain ⟨xid, ⟨xoa, xolen, xocap, xol⟩, xia, xn, xcap, xms, xlife, xwant⟩ := x
    have HX := Lib.hid (Box.new w1 39 #[.int .i64 xid, .slice xoa xolen xocap, .slice xia xn xcap, .int .i64 xlife, .int .i64 xwant])
    replace HB := Lib.hid (HB.out.next (.cells #[.int .i64 xid, .slice xoa xolen xocap, .slice xia xn xcap, .int .i64 xlife, .int .i64 xwant] 39))
    replace HZ := Lib.hid (HZ.out.next (.cells #[.int .i64 xid, .slice xoa xolen xocap, .slice xia xn xcap, .int .i64 xlife, .int .i64 xwant] 39))
    replace HK := Lib.hid (HK.out.alloc (.cells #[.int .i64 xid, .slice xoa xolen xocap, .slice xia xn xcap, .int .i64 xlife, .int .i64 xwant] 39))
    go_wp2_with fail
    (with_reducible refine (HW.out _).mono ?_)
    rintro e w2 ⟨rfl, rfl⟩
    go_wp2_with fail
    refine bodyPost_ret (v := .tuple #[.agg #[.int .i64 0, .slice none 0 0, .slice none 0 0, .int .i64 0, .int .i64 0], .int .i64 2]) (by simp [results, Try.results42, go_sem, *]) rfl ⟨RCni.zero, rfl, HP.out.symm, RCni.zero_own _ _, ?_⟩
    repeat (first | with_reducible exact HK.out | with_reducible exact HK1.out | with_reducible refine Keeps.setCell ?_ (by simp <;> omega) _ | with_reducible refine Keeps.alloc ?_ _)
  simp only [cond_true] at HP HE
  obtain rfl : E = 0 := HE.out
  go_enter Try.func42, Try.ntmps42
  go_wp2_with fail
  (with_reducible refine (HOW.out _ (by exact HC.out.keeps HK.out)).mono ?_)
  rintro e w1 ⟨x, rfl, hp, ho, hk1⟩
  have HO : Hid (RCni.Own x w1 (w.heap.size + 1 + 1)) := Lib.hid (by have h := ho; simp only [World.size_alloc] at h; exact h)
  have HXP := Lib.hid hp
  replace HB := Lib.hid (HB.out.keeps hk1)
  replace HZ := Lib.hid (HZ.out.keeps hk1)
  replace HK := Lib.hid (HK.out.trans hk1)
  have HK1 := HK
  have hwz : w.heap.size + 1 < w1.heap.size := HZ.out.lt
  clear hk1 ho hp
  have z0 := HZ.out.cell 0 _ rfl
  have z1 := HZ.out.cell 1 _ rfl
  have z2 := HZ.out.cell 2 _ rfl
  have z3 := HZ.out.cell 3 _ rfl
  have z4 := HZ.out.cell 4 _ rfl
  have zl := HZ.out.lt
  have zf := HZ.out.frozen
  have b0 := HB.out.cell 0 _ rfl
  have b1 := HB.out.cell 1 _ rfl
  have b2 := HB.out.cell 2 _ rfl
  have b3 := HB.out.cell 3 _ rfl
  have b4 := HB.out.cell 4 _ rfl
  have bl := HB.out.lt
  have bf := HB.out.frozen
  obtain ⟨xid, ⟨xoa, xolen, xocap, xol⟩, xia, xn, xcap, xms, xlife, xwant⟩ := x
  have HX := Lib.hid (Box.new w1 39 #[.int .i64 xid, .slice xoa xolen xocap, .slice xia xn xcap, .int .i64 xlife, .int .i64 xwant])
  replace HB := Lib.hid (HB.out.next (.cells #[.int .i64 xid, .slice xoa xolen xocap, .slice xia xn xcap, .int .i64 xlife, .int .i64 xwant] 39))
  replace HZ := Lib.hid (HZ.out.next (.cells #[.int .i64 xid, .slice xoa xolen xocap, .slice xia xn xcap, .int .i64 xlife, .int .i64 xwant] 39))
  replace HK := Lib.hid (HK.out.alloc (.cells #[.int .i64 xid, .slice xoa xolen xocap, .slice xia xn xcap, .int .i64 xlife, .int .i64 xwant] 39))
  go_wp2_with fail
  (with_reducible refine (HW.out _).mono ?_)
  rintro e w2 ⟨rfl, rfl⟩
  go_wp2_with fail
  have hb2 : w.heap.size + 1 + 1 ≤ w1.heap.size := hwz
  refine bodyPost_ret (v := .tuple #[.agg #[.int .i64 xid, .slice xoa xolen xocap, .slice xia xn xcap, .int .i64 xlife, .int .i64 mode], .int .i64 0]) (by simp [results, Try.results42, go_sem, *]) rfl ⟨⟨xid, ⟨xoa, xolen, xocap, xol⟩, xia, xn, xcap, xms, xlife, mode⟩, rfl, ?_, ?_, ?_⟩
  · rw [HP.out, ← HXP.out]; rfl
  · refine RCni.Own.mono (base := w.heap.size + 1 + 1) (RCni.Own.withN (c := ⟨xid, ⟨xoa, xolen, xocap, xol⟩, xia, xn, xcap, xms, xlife, xwant⟩) (HO.out.same (E := w1.heap.size) ?_ (Nat.le_refl _)) xlife mode) (by omega)
    repeat (first | with_reducible exact SameOn.refl _ _ _ | with_reducible refine SameOn.setCell ?_ (by omega) _ _ | with_reducible refine SameOn.alloc ?_ (by simp) _)
  · repeat (first | with_reducible exact HK.out | with_reducible exact HK1.out | with_reducible refine Keeps.setCell ?_ (by simp <;> omega) _ | with_reducible refine Keeps.alloc ?_ _)
end Go.Proofs.Ytcophhdlcjemeaa
