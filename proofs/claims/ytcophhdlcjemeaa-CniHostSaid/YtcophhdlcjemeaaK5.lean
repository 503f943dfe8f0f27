/- The walks of layer 12, 5: Beat, Write, Ask. -/
import Derived.Test.YtcophhdlcjemeaaK4
namespace Go.Proofs.Ytcophhdlcjemeaa
open Go.RowKit
set_option linter.unusedVariables false
set_option linter.unusedSimpArgs false
def ownP (p : PCni) : PCni := cond (cniOk p) p PCni.zero
def ownE (p : PCni) : Int := cond (cniOk p) 0 120
theorem own_any (c : RCni) (w : World) (hc : c.In w) : Calls Try.prog 59 #[c.val] w (CniPost (ownP c.p) (ownE c.p) w) := by
  unfold ownP ownE
  cases h : cniOk c.p
  · exact own_no c w hc h
  · exact own_yes c w hc h
/-- other bytes to be sent -/
theorem RCni.Own.withO {c : RCni} {w : World} {base : Nat} (h : c.Own w base) (y : RY) (hy : y.In w) (hb : 0 < y.len → ∀ a, y.a = some a → base ≤ a.block ∧ Value.ownBlock (.slice c.ia c.n c.cap) ≠ some a.block) : RCni.Own { c with o := y } w base :=
  ⟨hy, h.m, fun h0 a ha => (hb h0 a ha).2, fun h0 a ha => (hb h0 a ha).1, h.frm⟩
theorem RCni.Own.withN {c : RCni} {w : World} {base : Nat} (h : c.Own w base) (life want : Int) : RCni.Own { c with life := life, want := want } w base := ⟨h.o, h.m, h.far, h.fro, h.frm⟩
theorem RCni.Own.ownLt {c : RCni} {w : World} {base : Nat} (h : c.Own w base) : ∀ k, Value.ownBlock (.slice c.ia c.n c.cap) = some k → base ≤ k ∧ k < w.heap.size := h.m.lt
def beatP (p : PCni) : PCni := cond (cniOk p) { p with life := 4 } PCni.zero
set_option maxRecDepth 100000 in
set_option maxHeartbeats 2000000 in
theorem beat_any (c : RCni) (w : World) (hc : c.In w) : Calls Try.prog 19 #[c.val] w (CniPost (beatP c.p) (ownE c.p) w) := by
  have HOW := Lib.hid (own_any c)
  have HP : Hid (beatP c.p = cond (cniOk c.p) { ownP c.p with life := 4 } (ownP c.p)) := Lib.hid (by unfold beatP ownP; cases cniOk c.p <;> rfl)
  have HE : Hid (ownE c.p = cond (cniOk c.p) 0 120) := Lib.hid rfl
  obtain ⟨P, hP⟩ : ∃ P, P = beatP c.p := ⟨_, rfl⟩
  obtain ⟨E, hE⟩ : ∃ E, E = ownE c.p := ⟨_, rfl⟩
  obtain ⟨Q, hQ⟩ : ∃ Q, Q = ownP c.p := ⟨_, rfl⟩
  obtain ⟨O, hO⟩ : ∃ O, O = cniOk c.p := ⟨_, rfl⟩
  rw [← hE, ← hQ] at HOW
  rw [← hP, ← hO, ← hQ] at HP
  rw [← hE, ← hO] at HE
  rw [← hP, ← hE]
  clear hP hE hQ hO
  have HC := Lib.hid hc
  clear hc
  obtain ⟨id, ⟨oa, olen, ocap, ol⟩, ia, n, cap, ms, life, want⟩ := c
  have HK := Lib.hid (((Keeps.refl w).alloc (.cells #[.int .i64 id, .slice oa olen ocap, .slice ia n cap, .int .i64 life, .int .i64 want] 39)).alloc (.cells #[.int .i64 0, .slice none 0 0, .slice none 0 0, .int .i64 0, .int .i64 0] 39))
  have HB := Lib.hid ((Box.new w 39 #[.int .i64 id, .slice oa olen ocap, .slice ia n cap, .int .i64 life, .int .i64 want]).next (.cells #[.int .i64 0, .slice none 0 0, .slice none 0 0, .int .i64 0, .int .i64 0] 39))
  have hz := Box.new (w.alloc (.cells #[.int .i64 id, .slice oa olen ocap, .slice ia n cap, .int .i64 life, .int .i64 want] 39)) 39 #[.int .i64 0, .slice none 0 0, .slice none 0 0, .int .i64 0, .int .i64 0]
  rw [World.size_alloc] at hz
  have HZ := Lib.hid hz
  clear hz
  show Calls Try.prog 19 #[.agg #[.int .i64 id, .slice oa olen ocap, .slice ia n cap, .int .i64 life, .int .i64 want]] w _
  cases O
  · obtain rfl : E = 120 := HE.out
    go_enter Try.func19, Try.ntmps19
    go_wp2_with fail
    (with_reducible refine (HOW.out _ (by exact HC.out.keeps HK.out)).mono ?_)
    rintro e w1 ⟨x, rfl, hp, ho, hk1⟩
    have HO : Hid (RCni.Own x w1 (w.heap.size + 1 + 1)) := Lib.hid (by have h := ho; simp only [World.size_alloc] at h; exact h)
    have HXP := Lib.hid hp
    replace HB := Lib.hid (HB.out.keeps hk1)
    replace HZ := Lib.hid (HZ.out.keeps hk1)
    replace HK := Lib.hid (HK.out.trans hk1)
    have HK1 := HK
    have hwz : w.heap.size + 1 < w1.heap.size := HZ.out.lt
    clear hk1 ho hp
    have z0 := HZ.out.cell 0 _ rfl
    have z1 := HZ.out.cell 1 _ rfl
    have z2 := HZ.out.cell 2 _ rfl
    have z3 := HZ.out.cell 3 _ rfl
    have z4 := HZ.out.cell 4 _ rfl
    have zl := HZ.out.lt
    have zf := HZ.out.frozen
    have b0 := HB.out.cell 0 _ rfl
    have b1 := HB.out.cell 1 _ rfl
    have b2 := HB.out.cell 2 _ rfl
    have b3 := HB.out.cell 3 _ rfl
    have b4 := HB.out.cell 4 _ rfl
    have bl := HB.out.lt
    have bf := HB.out.frozen
    obtain ⟨xid, ⟨xoa, xolen, xocap, xol⟩, xia, xn, xcap, xms, xlife, xwant⟩ := x
    have HX := Lib.hid (Box.new w1 39 #[.int .i64 xid, .slice xoa xolen xocap, .slice xia xn xcap, .int .i64 xlife, .int .i64 xwant])
    replace HB := Lib.hid (HB.out.next (.cells #[.int .i64 xid, .slice xoa xolen xocap, .slice xia xn xcap, .int .i64 xlife, .int .i64 xwant] 39))
    replace HZ := Lib.hid (HZ.out.next (.cells #[.int .i64 xid, .slice xoa xolen xocap, .slice xia xn xcap, .int .i64 xlife, .int .i64 xwant] 39))
    replace HK := Lib.hid (HK.out.alloc (.cells #[.int .i64 xid, .slice xoa xolen xocap, .slice xia xn xcap, .int .i64 xlife, .int .i64 xwant] 39))
    go_wp2_with fail
    have hb2 : w.heap.size + 1 + 1 ≤ w1.heap.size := hwz
    refine bodyPost_ret (v := .tuple #[.agg #[.int .i64 xid, .slice xoa xolen xocap, .slice xia xn xcap, .int .i64 xlife, .int .i64 xwant], .int .i64 120]) (by simp [results, Try.results19, go_sem, *]) rfl ⟨(⟨xid, ⟨xoa, xolen, xocap, xol⟩, xia, xn, xcap, xms, xlife, xwant⟩ : RCni), rfl, HXP.out.trans HP.out.symm, ?_, ?_⟩
    · refine RCni.Own.mono (base := w.heap.size + 1 + 1) (HO.out.same (E := w1.heap.size) ?_ (Nat.le_refl _)) (by omega)
      repeat (first | with_reducible exact SameOn.refl _ _ _ | with_reducible refine SameOn.setCell ?_ (by omega) _ _ | with_reducible refine SameOn.alloc ?_ (by simp) _)
    · repeat (first | with_reducible exact HK.out | with_reducible exact HK1.out | with_reducible refine Keeps.setCell ?_ (by simp <;> omega) _ | with_reducible refine Keeps.alloc ?_ _)
  · obtain rfl : E = 0 := HE.out
    go_enter Try.func19, Try.ntmps19
    go_wp2_with fail
    (with_reducible refine (HOW.out _ (by exact HC.out.keeps HK.out)).mono ?_)
    rintro e w1 ⟨x, rfl, hp, ho, hk1⟩
    have HO : Hid (RCni.Own x w1 (w.heap.size + 1 + 1)) := Lib.hid (by have h := ho; simp only [World.size_alloc] at h; exact h)
    have HXP := Lib.hid hp
    replace HB := Lib.hid (HB.out.keeps hk1)
    replace HZ := Lib.hid (HZ.out.keeps hk1)
    replace HK := Lib.hid (HK.out.trans hk1)
    have HK1 := HK
    have hwz : w.heap.size + 1 < w1.heap.size := HZ.out.lt
    clear hk1 ho hp
    have z0 := HZ.out.cell 0 _ rfl
    have z1 := HZ.out.cell 1 _ rfl
    have z2 := HZ.out.cell 2 _ rfl
    have z3 := HZ.out.cell 3 _ rfl
    have z4 := HZ.out.cell 4 _ rfl
    have zl := HZ.out.lt
    have zf := HZ.out.frozen
    have b0 := HB.out.cell 0 _ rfl
    have b1 := HB.out.cell 1 _ rfl
    have b2 := HB.out.cell 2 _ rfl
    have b3 := HB.out.cell 3 _ rfl
    have b4 := HB.out.cell 4 _ rfl
    have bl := HB.out.lt
    have bf := HB.out.frozen
    obtain ⟨xid, ⟨xoa, xolen, xocap, xol⟩, xia, xn, xcap, xms, xlife, xwant⟩ := x
    have HX := Lib.hid (Box.new w1 39 #[.int .i64 xid, .slice xoa xolen xocap, .slice xia xn xcap, .int .i64 xlife, .int .i64 xwant])
    replace HB := Lib.hid (HB.out.next (.cells #[.int .i64 xid, .slice xoa xolen xocap, .slice xia xn xcap, .int .i64 xlife, .int .i64 xwant] 39))
    replace HZ := Lib.hid (HZ.out.next (.cells #[.int .i64 xid, .slice xoa xolen xocap, .slice xia xn xcap, .int .i64 xlife, .int .i64 xwant] 39))
    replace HK := Lib.hid (HK.out.alloc (.cells #[.int .i64 xid, .slice xoa xolen xocap, .slice xia xn xcap, .int .i64 xlife, .int .i64 xwant] 39))
    go_wp2_with fail
    have hb2 : w.heap.size + 1 + 1 ≤ w1.heap.size := hwz
    refine bodyPost_ret (v := .tuple #[.agg #[.int .i64 xid, .slice xoa xolen xocap, .slice xia xn xcap, .int .i64 4, .int .i64 xwant], .int .i64 0]) (by simp [results, Try.results19, go_sem, *]) rfl ⟨⟨xid, ⟨xoa, xolen, xocap, xol⟩, xia, xn, xcap, xms, 4, xwant⟩, rfl, ?_, ?_, ?_⟩
    · rw [HP.out, ← HXP.out]; rfl
    · refine RCni.Own.mono (base := w.heap.size + 1 + 1) (RCni.Own.withN (c := ⟨xid, ⟨xoa, xolen, xocap, xol⟩, xia, xn, xcap, xms, xlife, xwant⟩) (HO.out.same (E := w1.heap.size) ?_ (Nat.le_refl _)) 4 xwant) (by omega)
      repeat (first | with_reducible exact SameOn.refl _ _ _ | with_reducible refine SameOn.setCell ?_ (by omega) _ _ | with_reducible refine SameOn.alloc ?_ (by simp) _)
    · repeat (first | with_reducible exact HK.out | with_reducible exact HK1.out | with_reducible refine Keeps.setCell ?_ (by simp <;> omega) _ | with_reducible refine Keeps.alloc ?_ _)
end Go.Proofs.Ytcophhdlcjemeaa
