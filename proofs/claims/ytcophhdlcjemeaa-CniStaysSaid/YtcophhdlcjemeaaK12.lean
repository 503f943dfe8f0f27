/- The walk of CniStays. -/
import Derived.Test.YtcophhdlcjemeaaK9
import Derived.Test.YtcophhdlcjemeaaK11
namespace Go.Proofs.Ytcophhdlcjemeaa
open Go.RowKit
set_option linter.unusedVariables false
set_option linter.unusedSimpArgs false
/-- what was delivered is as old as rounds went by -/
structure Sty (p : PCni) (N s : Nat) (dl : List Nat) (i : Nat) : Prop where
  ok : cniOk p = true
  len : p.ms.length = N
  at_ : p.ms[s]? = some (dl, (i : Int))
theorem Sty.lt {p : PCni} {N s i : Nat} {dl : List Nat} (h : Sty p N s dl i) : s < N ∧ 4 ≤ N ∧ N ≤ 8 ∧ dl.length ≤ 8 := by
  obtain ⟨h1, -, -, -, -, h6⟩ := (cniOk_iff p).1 h.ok
  have hs := (List.getElem?_eq_some_iff.1 h.at_).1
  have hm := h6 _ (List.mem_of_getElem? h.at_)
  have hl := h.len
  exact ⟨by omega, by omega, by omega, hm.1⟩
theorem Sty.round {p : PCni} {N s i : Nat} {dl : List Nat} (h : Sty p N s dl i) (hi : i ≤ 100) : Sty (roundP p) N s dl (i + 1) ∧ ownE p = 0 := by
  obtain ⟨h1, h2, h3, h4, h5, h6⟩ := (cniOk_iff p).1 h.ok
  refine ⟨⟨?_, ?_, ?_⟩, by unfold ownE; rw [h.ok]; rfl⟩
  · unfold roundP
    rw [h.ok]
    simp only [cond_true]
    rw [cniOk_iff]
    simp only [List.length_map]
    refine ⟨h1, h2, h3, by omega, h5, fun m hm => ?_⟩
    obtain ⟨y, hy, rfl⟩ := List.mem_map.1 hm
    have := h6 y hy
    unfold agep
    simp only
    omega
  · unfold roundP; rw [h.ok]; simp only [cond_true, List.length_map]; exact h.len
  · unfold roundP
    rw [h.ok]
    simp only [cond_true, List.getElem?_map, h.at_, Option.map_some, agep, Option.some.injEq, Prod.mk.injEq, true_and]
    omega
theorem deliv_ok {p : PCni} {k : Nat} {l : List Nat} (h : cniOk p = true) (hk : k < p.ms.length) (hl : l.length ≤ 8) : delivE p k l = 0 ∧ delivP p k l = { p with ms := p.ms.set k (l, 0) } ∧ cniOk (delivP p k l) = true := by
  obtain ⟨h1, h2, h3, h4, h5, h6⟩ := (cniOk_iff p).1 h
  have hb : betw (k : Int) 0 ((p.ms.length : Int) - 1) = true := (betw_iff _ _ _).2 (by omega)
  have e : delivP p k l = { p with ms := p.ms.set k (l, 0) } := by
    unfold delivP
    rw [h, hb, decide_eq_true hl]
    simp
  refine ⟨?_, e, ?_⟩
  · unfold delivE; rw [h, hb, decide_eq_true hl]; rfl
  · rw [e, cniOk_iff]
    simp only [List.length_set]
    refine ⟨h1, h2, h3, h4, h5, fun m hm => ?_⟩
    rcases List.mem_or_eq_of_mem_set hm with hm | rfl
    · exact h6 m hm
    · exact ⟨hl, by simp⟩
theorem Sty.other {p : PCni} {N s i k : Nat} {dl l : List Nat} (h : Sty p N s dl i) (hk : k < N) (hks : k ≠ s) (hl : l.length ≤ 8) : Sty (delivP p k l) N s dl i ∧ delivE p k l = 0 := by
  have hn := h.len
  obtain ⟨e1, e2, e3⟩ := deliv_ok (k := k) h.ok (by omega) hl
  refine ⟨⟨e3, ?_, ?_⟩, e1⟩
  · rw [e2]; simp only [List.length_set]; exact hn
  · rw [e2]; simp only [List.getElem?_set_ne hks]; exact h.at_
theorem Sty.last {p : PCni} {N s i : Nat} {dl : List Nat} (h : Sty p N s dl i) : Sty (delivP p s []) N s [] 0 ∧ delivE p s [] = 0 := by
  have hn := h.len
  have hs := h.lt.1
  obtain ⟨e1, e2, e3⟩ := deliv_ok (l := []) h.ok (k := s) (by omega) (by decide)
  refine ⟨⟨e3, ?_, ?_⟩, e1⟩
  · rw [e2]; simp only [List.length_set]; exact hn
  · rw [e2]; simp [show s < p.ms.length by omega]
theorem Sty.first {p : PCni} {s : Nat} {dl : List Nat} (h : delivE p s dl = 0) : ∃ N, Sty (delivP p s dl) N s dl 0 := by
  unfold delivE at h
  cases hk : cniOk p <;> rw [hk] at h
  · simp at h
  cases hb : betw (s : Int) 0 ((p.ms.length : Int) - 1) <;> rw [hb] at h
  · simp at h
  by_cases hd : dl.length ≤ 8
  · have hb' := (betw_iff _ _ _).1 hb
    obtain ⟨e1, e2, e3⟩ := deliv_ok (l := dl) hk (k := s) (by omega) hd
    refine ⟨p.ms.length, e3, by rw [e2]; simp, ?_⟩
    rw [e2]; simp [show s < p.ms.length by omega]
  · rw [decide_eq_false hd] at h; simp at h
/-- the message in a slot, in memory -/
theorem Sty.cells {y : RCni} {w : World} {N s i : Nat} {dl : List Nat} (h : Sty y.p N s dl i) (hy : y.In w) : y.n = N ∧ y.n ≤ y.cap ∧ y.cap ≤ 9223372036854775807 ∧ ∃ (b off : Nat) (x : RY), y.ia = some ⟨b, off, none⟩ ∧ w.cell? ⟨b, off + s * 2, none⟩ = some (.slice x.a x.len x.cap) ∧ w.cell? ⟨b, off + s * 2 + 1, none⟩ = some (.int .i64 i) ∧ x.In w ∧ x.l = dl := by
  have hl := h.len
  have hml := hy.m.len
  unfold RCni.p at hl
  simp only [List.length_map] at hl
  have hs := h.lt.1
  have hs' : s < y.ms.length := by omega
  obtain ⟨b, off, hab, h0, h1⟩ := hy.m.cell s hs'
  have ha := h.at_
  unfold RCni.p at ha
  simp only [List.getElem?_map, List.getElem?_eq_getElem hs', Option.map_some, Option.some.injEq, RMsg.p, Prod.mk.injEq] at ha
  rw [ha.2] at h1
  exact ⟨by omega, hy.m.hcap, hy.m.hmax, b, off, y.ms[s].d, hab, h0, h1, hy.m.isIn _ (List.getElem_mem _), ha.1⟩
theorem Sty.ownCells {y : RCni} {w : World} {N s i base : Nat} {dl : List Nat} (h : Sty y.p N s dl i) (hy : y.Own w base) : y.n = N ∧ y.n ≤ y.cap ∧ y.cap ≤ 9223372036854775807 ∧ ∃ (g : Nat) (x : RY), y.ia = some ⟨g, 0, none⟩ ∧ base ≤ g ∧ g < w.heap.size ∧ w.cell? ⟨g, s * 2, none⟩ = some (.slice x.a x.len x.cap) ∧ w.cell? ⟨g, s * 2 + 1, none⟩ = some (.int .i64 i) ∧ x.In w ∧ x.l = dl ∧ (0 < x.len → ∀ a, x.a = some a → base ≤ a.block) := by
  have hl := h.len
  unfold RCni.p at hl
  simp only [List.length_map] at hl
  have hs := h.lt
  have hs' : s < y.ms.length := by omega
  obtain ⟨h1, h2, h3, h4⟩ := hy.row
  obtain ⟨g, hg, hg1, hg2, -, hcell⟩ := h4 (by omega)
  obtain ⟨k0, k1⟩ := hcell s hs'
  have ha := h.at_
  unfold RCni.p at ha
  simp only [List.getElem?_map, List.getElem?_eq_getElem hs', Option.map_some, Option.some.injEq, RMsg.p, Prod.mk.injEq] at ha
  rw [ha.2] at k1
  exact ⟨by omega, h2, h3, g, y.ms[s].d, hg, hg1, hg2, k0, k1, hy.m.isIn _ (List.getElem_mem _), ha.1, hy.frm _ (List.getElem_mem _)⟩
set_option maxRecDepth 100000 in
set_option maxHeartbeats 4000000 in
theorem cniStays_any (c : RCni) (slot : Int) (d : RY) (r o : Nat) (w : World) (hc : c.In w) (hd : d.In w) (hr : r < 256) (ho : o < 256) :
    Calls Try.prog 5 #[c.val, .int .i64 slot, .slice d.a d.len d.cap, .int .u8 r, .int .u8 o] w fun e w' => e = .returned (.bool true) ∧ Keeps w w' := by
  have HDE := Lib.hid (deliver_any c slot d)
  have HST := Lib.hid (fun (s : Nat) (h : slot = s) (h0 : delivE c.p slot d.l = 0) => (show ∃ N, Sty (delivP c.p slot d.l) N s d.l 0 by subst h; exact Sty.first h0))
  have HC := Lib.hid hc
  have HD := Lib.hid hd
  have hdm := Nat.le_trans hd.cap hd.max
  clear hc hd
  obtain ⟨E, hE⟩ : ∃ E, E = delivE c.p slot d.l := ⟨_, rfl⟩
  obtain ⟨P, hP⟩ : ∃ P, P = delivP c.p slot d.l := ⟨_, rfl⟩
  rw [← hE, ← hP] at HDE
  rw [← hE] at HST
  have HPE := Lib.hid hP
  clear hE hP
  obtain ⟨id, ⟨oa, olen, ocap, ol⟩, ia, n, cap, ms, life, want⟩ := c
  obtain ⟨da, dlen, dcap, dl⟩ := d
  simp only at hdm HST
  have HK := Lib.hid ((Keeps.refl w).alloc (.cells #[.int .i64 id, .slice oa olen ocap, .slice ia n cap, .int .i64 life, .int .i64 want] 39))
  show Calls Try.prog 5 #[.agg #[.int .i64 id, .slice oa olen ocap, .slice ia n cap, .int .i64 life, .int .i64 want], .int .i64 slot, .slice da dlen dcap, .int .u8 r, .int .u8 o] w _
  go_enter Try.func5, Try.ntmps5
  go_wp2_with fail
  (with_reducible refine (HDE.out _ (by exact HC.out.keeps HK.out) (by exact HD.out.keeps HK.out)).mono ?_)
  rintro e w1 ⟨x, rfl, hp, ho, hk1⟩
  have HXP := Lib.hid (hp.trans HPE.out)
  have HXI := Lib.hid ho.isIn
  replace HK := Lib.hid (HK.out.trans hk1)
  have hCw := HK.out.size
  clear hp ho hk1 HDE HC HPE
  obtain ⟨xid, ⟨xoa, xolen, xocap, xol⟩, xia, xn, xcap, xms, xlife, xwant⟩ := x
  have HX := Lib.hid (Box.new w1 39 #[.int .i64 xid, .slice xoa xolen xocap, .slice xia xn xcap, .int .i64 xlife, .int .i64 xwant])
  replace HXI := Lib.hid (HXI.out.keeps ((Keeps.refl _).alloc (.cells #[.int .i64 xid, .slice xoa xolen xocap, .slice xia xn xcap, .int .i64 xlife, .int .i64 xwant] 39)))
  replace HK := Lib.hid (HK.out.alloc (.cells #[.int .i64 xid, .slice xoa xolen xocap, .slice xia xn xcap, .int .i64 xlife, .int .i64 xwant] 39))
  go_wp2_with fail
  (with_reducible refine (begun12_any _).mono ?_)
  rintro e w2 ⟨rfl, hk1⟩
  replace HX := Lib.hid (HX.out.keeps hk1)
  replace HXI := Lib.hid (HXI.out.keeps hk1)
  replace HK := Lib.hid (HK.out.trans hk1)
  clear hk1
  obtain ⟨C, hC⟩ : ∃ C, C = w1.heap.size := ⟨_, rfl⟩
  rw [← hC] at HX hCw ⊢
  clear hC
  by_cases h0 : ¬ E = 0
  · have d1 : (E != 0) = true := by rw [bne_iff_ne]; exact h0
    go_wp2_with fail
    (with_reducible refine (begun12_any _).mono ?_)
    rintro e w3 ⟨rfl, hk1⟩
    replace HK := Lib.hid (HK.out.trans hk1)
    clear hk1
    go_wp2_with fail
    go_ret
    exact ⟨rfl, HK.out⟩
  replace h0 := Decidable.of_not_not h0
  subst h0
  by_cases hs0 : slot < 0
  · have d2 : decide (slot < 0) = true := decide_eq_true hs0
    go_wp2_with fail
    (with_reducible refine (begun12_any _).mono ?_)
    rintro e w3 ⟨rfl, hk1⟩
    replace HK := Lib.hid (HK.out.trans hk1)
    clear hk1
    go_wp2_with fail
    go_ret
    exact ⟨rfl, HK.out⟩
  have d2 : decide (slot < 0) = false := decide_eq_false hs0
  obtain ⟨s, rfl⟩ : ∃ s : Nat, slot = s := ⟨slot.toNat, by omega⟩
  obtain ⟨N, hst⟩ := HST.out s rfl rfl
  have HSI : Hid (Sty (RCni.p ⟨xid, ⟨xoa, xolen, xocap, xol⟩, xia, xn, xcap, xms, xlife, xwant⟩) N s dl 0) := Lib.hid (by rw [HXP.out]; exact hst)
  have hlt4 := hst.lt
  clear HST HXP hst
  obtain ⟨R, hR⟩ : ∃ R, R = r % 20 := ⟨_, rfl⟩
  have hR20 : R < 20 := by omega
  have hRm : (r : Int) % 20 = (R : Int) := by omega
  have hRt : (r : Int).tmod 20 = (R : Int) := by rw [Int.tmod_eq_emod_of_nonneg (by omega)]; exact hRm
  have hwu : IntKind.u8.wrap (R : Int) = R := by simp [IntKind.wrap, IntKind.bits, IntKind.signed]; omega
  have hwi : IntKind.i64.wrap (R : Int) = R := by simp [IntKind.wrap, IntKind.bits, IntKind.signed]; omega
  clear hR
  go_wp2_with fail
  go_loopw [38] (fun u wr => ∃ (i : Nat) (y : RCni), i ≤ R ∧ u = .int .i64 i ∧ Hid (Sty y.p N s dl i) ∧ Hid (y.In wr) ∧ Hid (Box wr C 39 y.arr) ∧ Hid (Keeps w wr)) (fun u _ => R - (intOf u).toNat)
  case atStart => exact ⟨0, ⟨xid, ⟨xoa, xolen, xocap, xol⟩, xia, xn, xcap, xms, xlife, xwant⟩, Nat.zero_le _, rfl, HSI, HXI, HX, HK⟩
  case round =>
    clear HX HXI HK HSI
    obtain ⟨i, y, hi, rfl, HSI, HYI, HX, HK⟩ := hrel
    by_cases hlt : i < R
    · have HRO := Lib.hid (round12_any y)
      have HSR := Lib.hid (HSI.out.round (show i ≤ 100 by omega))
      rw [HSR.out.2] at HRO
      obtain ⟨yid, ⟨yoa, yolen, yocap, yol⟩, yia, yn, ycap, yms, ylife, ywant⟩ := y
      replace HX : Hid (Box wr C 39 #[.int .i64 yid, .slice yoa yolen yocap, .slice yia yn ycap, .int .i64 ylife, .int .i64 ywant]) := HX
      have x0 := HX.out.cell 0 _ rfl
      have x1 := HX.out.cell 1 _ rfl
      have x2 := HX.out.cell 2 _ rfl
      have x3 := HX.out.cell 3 _ rfl
      have x4 := HX.out.cell 4 _ rfl
      have xl := HX.out.lt
      have xf := HX.out.frozen
      go_wp2_with fail
      (with_reducible refine (HRO.out _ (by exact HYI.out)).mono ?_)
      rintro e w3 ⟨z, rfl, hp, ho2, hk1⟩
      have HZS : Hid (Sty z.p N s dl (i + 1)) := Lib.hid (by rw [hp]; exact HSR.out.1)
      have HZO : Hid (z.Own w3 (C + 1)) := Lib.hid (ho2.mono (by omega))
      replace HX := Lib.hid (HX.out.keeps hk1)
      replace HK := Lib.hid (HK.out.trans hk1)
      clear hp ho2 hk1 HRO HSR HSI HYI x0 x1 x2 x3 x4 xl xf
      have HCZ : Hid (∀ w, z.In w → Calls Try.prog 25 #[z.val] w fun e w' => e = .returned (.int .i64 0) ∧ Keeps w w') := Lib.hid (fun w h => by have h2 := ccheck_any z w h; rw [HZS.out.ok] at h2; exact h2)
      obtain ⟨zid, ⟨zoa, zolen, zocap, zol⟩, zia, zn, zcap, zms, zlife, zwant⟩ := z
      have x0 := HX.out.cell 0 _ rfl
      have x1 := HX.out.cell 1 _ rfl
      have x2 := HX.out.cell 2 _ rfl
      have x3 := HX.out.cell 3 _ rfl
      have x4 := HX.out.cell 4 _ rfl
      have xl := HX.out.lt
      have xf := HX.out.frozen
      go_wp2_with fail
      have HZI := Lib.hid (HZO.out.putC (Nat.lt_succ_self _) ⟨zid, ⟨zoa, zolen, zocap, zol⟩, zia, zn, zcap, zms, zlife, zwant⟩).isIn
      have HZB := Lib.hid (Box.putC (x := ⟨yid, ⟨yoa, yolen, yocap, yol⟩, yia, yn, ycap, yms, ylife, ywant⟩) HX.out ⟨zid, ⟨zoa, zolen, zocap, zol⟩, zia, zn, zcap, zms, zlife, zwant⟩)
      have HZK := Lib.hid (HK.out.putC hCw ⟨zid, ⟨zoa, zolen, zocap, zol⟩, zia, zn, zcap, zms, zlife, zwant⟩)
      (with_reducible refine (HCZ.out _ (by exact HZI.out)).mono ?_)
      rintro e w4 ⟨rfl, hk1⟩
      replace HZI := Lib.hid (HZI.out.keeps hk1)
      have HX2 : Hid (Box w4 C 39 #[.int .i64 zid, .slice zoa zolen zocap, .slice zia zn zcap, .int .i64 zlife, .int .i64 zwant]) := Lib.hid (HZB.out.keeps hk1)
      replace HX := HX2
      replace HK := Lib.hid (HZK.out.trans hk1)
      clear hk1 HZB HZK HZO HX2 HCZ x0 x1 x2 x3 x4 xl xf
      have hzn : zn = N := (HZS.out.cells HZI.out).1
      have hzc := (HZS.out.cells HZI.out).2.1
      have hzm := (HZS.out.cells HZI.out).2.2.1
      simp only at hzc hzm
      subst hzn
      have e5 : decide ((zn : Int) ≤ (s : Int)) = false := by simp; omega
      have e6 : decide (zn ≤ s) = false := by simp; omega
      obtain ⟨kk, hkk⟩ : ∃ kk, kk = (o + i) % zn := ⟨_, rfl⟩
      have hkn : kk < zn := by rw [hkk]; exact Nat.mod_lt _ (by omega)
      have hkm : ((o : Int) + (i : Int)) % (zn : Int) = (kk : Int) := by rw [hkk]; simp
      have hkt : ((o : Int) + (i : Int)).tmod (zn : Int) = (kk : Int) := by rw [← hkm]; exact Int.tmod_eq_emod_of_nonneg (by omega)
      have hwo : IntKind.i64.wrap (o : Int) = o := by simp [IntKind.wrap, IntKind.bits, IntKind.signed]; omega
      have hws : IntKind.i64.wrap ((o : Int) + (i : Int)) = (o : Int) + (i : Int) := by simp [IntKind.wrap, IntKind.bits, IntKind.signed]; omega
      have hwk : IntKind.i64.wrap (kk : Int) = kk := by simp [IntKind.wrap, IntKind.bits, IntKind.signed]; omega
      have hwn : ¬ (zn : Int) = 0 := by omega
      have hzn1 : ((zn : Int) == 0) = false := by rw [beq_eq_false_iff_ne]; exact hwn
      clear hkk
      have x0 := HX.out.cell 0 _ rfl
      have x1 := HX.out.cell 1 _ rfl
      have x2 := HX.out.cell 2 _ rfl
      have x3 := HX.out.cell 3 _ rfl
      have x4 := HX.out.cell 4 _ rfl
      have xl := HX.out.lt
      have xf := HX.out.frozen
      by_cases hks : kk = s
      · subst hks
        have e7 : ((kk : Int) != (kk : Int)) = false := by simp
        obtain ⟨-, -, -, mb, mo, mx, hmia, hmc0, hmc1, hmin, hml⟩ := HZS.out.cells HZI.out
        simp only at hmia
        subst hmia
        obtain ⟨ma, mlen, mcap, ml⟩ := mx
        simp only at hmc0 hml
        have HME : Hid (eqY ⟨ma, mlen, mcap, ml⟩ ⟨da, dlen, dcap, dl⟩ = true) := Lib.hid (decide_eq_true hml)
        have hmc1' : w4.cell? ⟨mb, mo + kk * 2 + 1, none⟩ = some (.int .i64 ((i : Int) + 1)) := by rw [hmc1]; simp
        have HMI := Lib.hid (hmin.keeps ((Keeps.refl _).alloc (.cells #[.slice ma mlen mcap, .int .i64 ((i : Int) + 1)] 53)))
        have HZI2 := Lib.hid (HZI.out.keeps ((Keeps.refl _).alloc (.cells #[.slice ma mlen mcap, .int .i64 ((i : Int) + 1)] 53)))
        have HX2 := Lib.hid (HX.out.next (.cells #[.slice ma mlen mcap, .int .i64 ((i : Int) + 1)] 53))
        have HK2 := Lib.hid (HK.out.alloc (.cells #[.slice ma mlen mcap, .int .i64 ((i : Int) + 1)] 53))
        clear hmc1 hmin hml
        go_wp2_with fail
        (with_reducible refine (bytesEq_any ⟨ma, mlen, mcap, ml⟩ ⟨da, dlen, dcap, dl⟩ _ (by exact HMI.out) (by exact HD.out.keeps HK2.out)).mono ?_)
        rw [HME.out]
        rintro e w9 ⟨rfl, rfl⟩
        go_wp2_with fail
        go_roundw
        case rel => exact ⟨i + 1, ⟨zid, ⟨zoa, zolen, zocap, zol⟩, some ⟨mb, mo, none⟩, zn, zcap, zms, zlife, zwant⟩, by omega, by go_num, HZS, HZI2, HX2, HK2⟩
        case measure => simp [intOf]; omega
      · have e7 : ((kk : Int) != (s : Int)) = true := by rw [bne_iff_ne]; omega
        have e8 : (kk != s) = true := by rw [bne_iff_ne]; exact hks
        have hot := HZS.out.other (k := kk) (l := [1]) hkn hks (by decide)
        have hy : Blk (w4.alloc (.cells #[.int .u8 1] 5)) .u8 5 w4.heap.size [1] := Box.new w4 5 #[.int .u8 1]
        have hy2 : RY.In ⟨some ⟨w4.heap.size, 0, none⟩, 1, 1, [1]⟩ _ := RY.ofBlk hy (by decide) (by decide)
        have HY1 := Lib.hid hy2
        have HDV : Hid (∀ w (q : RY), q.l = [1] → RCni.In ⟨zid, ⟨zoa, zolen, zocap, zol⟩, zia, zn, zcap, zms, zlife, zwant⟩ w → q.In w → Calls Try.prog 24 #[RCni.val ⟨zid, ⟨zoa, zolen, zocap, zol⟩, zia, zn, zcap, zms, zlife, zwant⟩, .int .i64 kk, .slice q.a q.len q.cap] w (CniPost (delivP (RCni.p ⟨zid, ⟨zoa, zolen, zocap, zol⟩, zia, zn, zcap, zms, zlife, zwant⟩) kk [1]) 0 w)) := Lib.hid (fun w q hq h1 h2 => by
          have h3 := deliver_any ⟨zid, ⟨zoa, zolen, zocap, zol⟩, zia, zn, zcap, zms, zlife, zwant⟩ kk q w h1 h2
          rw [hq, hot.2] at h3
          exact h3)
        have HOS := Lib.hid hot.1
        obtain ⟨PV, hPV⟩ : ∃ PV, PV = delivP (RCni.p ⟨zid, ⟨zoa, zolen, zocap, zol⟩, zia, zn, zcap, zms, zlife, zwant⟩) kk [1] := ⟨_, rfl⟩
        rw [← hPV] at HDV HOS
        have hCu : C < w4.heap.size := HX.out.lt
        clear hy hy2 hot hPV
        have HZI2 := Lib.hid (HZI.out.keeps ((Keeps.refl _).alloc (.cells #[.int .u8 1] 5)))
        have HX2 := Lib.hid (HX.out.next (.cells #[.int .u8 1] 5))
        have HK2 := Lib.hid (HK.out.alloc (.cells #[.int .u8 1] 5))
        go_wp2_with fail
        (with_reducible refine (HDV.out _ ⟨some ⟨w4.heap.size, 0, none⟩, 1, 1, [1]⟩ rfl (by exact HZI2.out) (by exact HY1.out)).mono ?_)
        rintro e w5 ⟨v, rfl, hp, ho2, hk1⟩
        have HVS : Hid (Sty v.p zn s dl (i + 1)) := Lib.hid (by rw [hp]; exact HOS.out)
        have HVO : Hid (v.Own w5 (C + 1)) := Lib.hid (ho2.mono (by simp; omega))
        replace HX := Lib.hid (HX2.out.keeps hk1)
        replace HK := Lib.hid (HK2.out.trans hk1)
        clear hp ho2 hk1 HX2 HK2 HZI2 HY1 HDV HOS x0 x1 x2 x3 x4 xl xf
        obtain ⟨vid, ⟨voa, volen, vocap, vol⟩, via, vn, vcap, vms, vlife, vwant⟩ := v
        obtain ⟨hv1, hv2, hv3, g, mx, hmia, hg1, hg2, hmc0, hmc1, hmin, hml, hmf⟩ := HVS.out.ownCells HVO.out
        simp only at hmia hv1 hv2 hv3
        subst hmia
        subst hv1
        have hgC : ¬ g = C := by omega
        obtain ⟨ma, mlen, mcap, ml⟩ := mx
        simp only at hmc0 hml hmf
        have HME : Hid (eqY ⟨ma, mlen, mcap, ml⟩ ⟨da, dlen, dcap, dl⟩ = true) := Lib.hid (decide_eq_true hml)
        have hmc1' : w5.cell? ⟨g, s * 2 + 1, none⟩ = some (.int .i64 ((i : Int) + 1)) := by rw [hmc1]; simp
        have HMI : Hid (RY.In ⟨ma, mlen, mcap, ml⟩ (putC w5 C ⟨vid, ⟨voa, volen, vocap, vol⟩, some ⟨g, 0, none⟩, vn, vcap, vms, vlife, vwant⟩)) := Lib.hid (hmin.same (B := C + 1) (E := w5.heap.size) (((((((SameOn.refl _ _ _).setCell (.inl (Nat.lt_succ_self _)) _ _).setCell (.inl (Nat.lt_succ_self _)) _ _).setCell (.inl (Nat.lt_succ_self _)) _ _).setCell (.inl (Nat.lt_succ_self _)) _ _).setCell (.inl (Nat.lt_succ_self _)) _ _)) (Nat.le_refl _) hmf)
        have HVI := Lib.hid (HVO.out.putC (Nat.lt_succ_self _) ⟨vid, ⟨voa, volen, vocap, vol⟩, some ⟨g, 0, none⟩, vn, vcap, vms, vlife, vwant⟩).isIn
        have HVB := Lib.hid (Box.putC (x := ⟨zid, ⟨zoa, zolen, zocap, zol⟩, zia, vn, zcap, zms, zlife, zwant⟩) HX.out ⟨vid, ⟨voa, volen, vocap, vol⟩, some ⟨g, 0, none⟩, vn, vcap, vms, vlife, vwant⟩)
        have HVK := Lib.hid (HK.out.putC hCw ⟨vid, ⟨voa, volen, vocap, vol⟩, some ⟨g, 0, none⟩, vn, vcap, vms, vlife, vwant⟩)
        have HMI2 := Lib.hid (HMI.out.keeps ((Keeps.refl _).alloc (.cells #[.slice ma mlen mcap, .int .i64 ((i : Int) + 1)] 53)))
        have HVI2 := Lib.hid (HVI.out.keeps ((Keeps.refl _).alloc (.cells #[.slice ma mlen mcap, .int .i64 ((i : Int) + 1)] 53)))
        have HVB2 := Lib.hid (HVB.out.next (.cells #[.slice ma mlen mcap, .int .i64 ((i : Int) + 1)] 53))
        have HVK2 := Lib.hid (HVK.out.alloc (.cells #[.slice ma mlen mcap, .int .i64 ((i : Int) + 1)] 53))
        clear hmc1 hmin hml hmf
        have x0 := HX.out.cell 0 _ rfl
        have x1 := HX.out.cell 1 _ rfl
        have x2 := HX.out.cell 2 _ rfl
        have x3 := HX.out.cell 3 _ rfl
        have x4 := HX.out.cell 4 _ rfl
        have xl := HX.out.lt
        have xf := HX.out.frozen
        go_wp2_with fail
        (with_reducible refine (bytesEq_any ⟨ma, mlen, mcap, ml⟩ ⟨da, dlen, dcap, dl⟩ _ (by exact HMI2.out) (by exact HD.out.keeps HVK2.out)).mono ?_)
        rw [HME.out]
        rintro e w9 ⟨rfl, rfl⟩
        go_wp2_with fail
        go_roundw
        case rel => exact ⟨i + 1, ⟨vid, ⟨voa, volen, vocap, vol⟩, some ⟨g, 0, none⟩, vn, vcap, vms, vlife, vwant⟩, by omega, by go_num, HVS, HVI2, HVB2, HVK2⟩
        case measure => simp [intOf]; omega
    · obtain rfl : i = R := by omega
      have hla := HSI.out.last
      have HDV : Hid (∀ w, y.In w → Calls Try.prog 24 #[y.val, .int .i64 s, .slice none 0 0] w (CniPost (delivP y.p s []) 0 w)) := Lib.hid (fun w h1 => by
        have h3 := deliver_any y s RY.zero w h1 (RY.zero_in w)
        rw [show RY.zero.l = [] from rfl, hla.2] at h3
        exact h3)
      have HLS := Lib.hid hla.1
      obtain ⟨PV, hPV⟩ : ∃ PV, PV = delivP y.p s [] := ⟨_, rfl⟩
      rw [← hPV] at HDV HLS
      clear hla hPV
      obtain ⟨yid, ⟨yoa, yolen, yocap, yol⟩, yia, yn, ycap, yms, ylife, ywant⟩ := y
      replace HX : Hid (Box wr C 39 #[.int .i64 yid, .slice yoa yolen yocap, .slice yia yn ycap, .int .i64 ylife, .int .i64 ywant]) := HX
      have x0 := HX.out.cell 0 _ rfl
      have x1 := HX.out.cell 1 _ rfl
      have x2 := HX.out.cell 2 _ rfl
      have x3 := HX.out.cell 3 _ rfl
      have x4 := HX.out.cell 4 _ rfl
      have xl := HX.out.lt
      have xf := HX.out.frozen
      go_wp2_with fail
      (with_reducible refine (HDV.out _ (by exact HYI.out)).mono ?_)
      rintro e w5 ⟨v, rfl, hp, ho2, hk1⟩
      have HVS : Hid (Sty v.p N s [] 0) := Lib.hid (by rw [hp]; exact HLS.out)
      have HVI := Lib.hid ho2.isIn
      replace HK := Lib.hid (HK.out.trans hk1)
      clear hp ho2 hk1 HDV HLS x0 x1 x2 x3 x4 xl xf
      obtain ⟨vid, ⟨voa, volen, vocap, vol⟩, via, vn, vcap, vms, vlife, vwant⟩ := v
      obtain ⟨hv1, hv2, hv3, mb, mo, mx, hmia, hmc0, hmc1, hmin, hml⟩ := HVS.out.cells HVI.out
      simp only at hmia hv1 hv2 hv3
      subst hmia
      subst hv1
      obtain ⟨ma, mlen, mcap, ml⟩ := mx
      simp only at hmc0 hml
      have hm0 : mlen = 0 := by have h := hmin.row.1; simp only at h; rw [← h, hml]; rfl
      subst hm0
      have hmc1' : w5.cell? ⟨mb, mo + s * 2 + 1, none⟩ = some (.int .i64 0) := by rw [hmc1]; simp
      have hsn : (s : Int) < (vn : Int) := by omega
      have hsn2 : decide (s < vn) = true := by simp; omega
      have hsn3 : decide ((s : Int) < (vn : Int)) = true := by simp; omega
      replace HK := Lib.hid (HK.out.alloc (.cells #[.int .i64 vid, .slice voa volen vocap, .slice (some ⟨mb, mo, none⟩) vn vcap, .int .i64 vlife, .int .i64 vwant] 39))
      have hmb : mb < w5.heap.size := World.block_lt_of_cell? _ _ hmc0
      have hmb2 : ¬ mb = w5.heap.size := by omega
      clear hmc1 hmin hml
      go_wp2_with fail
      go_ret
      exact ⟨rfl, HK.out⟩
end Go.Proofs.Ytcophhdlcjemeaa
