/- The walks of layer 12, 14: the reference's Same. -/
import Derived.Test.YtcophhdlcjemeaaK9
import Derived.BigQuiet
namespace Go.Proofs.Ytcophhdlcjemeaa
open Go.RowKit
set_option linter.unusedVariables false
set_option linter.unusedSimpArgs false
def sameM (p q : PMsg) : Bool := decide (p.1 = q.1) && decide (p.2 = q.2)
theorem sameM_iff (p q : PMsg) : sameM p q = true ↔ p = q := by
  obtain ⟨a, b⟩ := p
  obtain ⟨c, d⟩ := q
  unfold sameM
  simp
def sameC (p q : PCni) : Bool := decide (p.id = q.id) && decide (p.o = q.o) && decide (p.life = q.life) && decide (p.want = q.want) && decide (p.ms = q.ms)
theorem sameC_iff (p q : PCni) : sameC p q = true ↔ p = q := by
  obtain ⟨a, b, c, d, e⟩ := p
  obtain ⟨a', b', c', d', e'⟩ := q
  unfold sameC
  simp only [Bool.and_eq_true, decide_eq_true_eq, PCni.mk.injEq]
  exact ⟨fun ⟨⟨⟨⟨h1, h2⟩, h3⟩, h4⟩, h5⟩ => ⟨h1, h2, h5, h3, h4⟩, fun ⟨h1, h2, h3, h4, h5⟩ => ⟨⟨⟨⟨h1, h2⟩, h4⟩, h5⟩, h3⟩⟩
theorem sameC_self (p : PCni) : sameC p p = true := (sameC_iff p p).2 rfl
theorem strOf_beq {l m : List Nat} (hb1 : ∀ v ∈ l, v < 256) (hb2 : ∀ v ∈ m, v < 256) : ((strOf l).toList == (strOf m).toList) = decide (l = m) := by
  rw [Bool.eq_iff_iff, beq_iff_eq, decide_eq_true_eq]
  exact ⟨fun h => strOf_inj' hb1 hb2 (by rw [strOf_list, strOf_list] at h; exact h), fun h => by rw [h]⟩
set_option maxRecDepth 100000 in
set_option maxHeartbeats 4000000 in
theorem rsame12_any (x y : RCni) (w : World) (hx : x.In w) (hy : y.In w) : Calls Try.prog 30 #[x.val, y.val] w fun e w' => e = .returned (.bool (sameC x.p y.p)) ∧ Keeps w w' := by
  have HX := Lib.hid hx
  have HY := Lib.hid hy
  have hxn := hx.m.len
  have hyn := hy.m.len
  have hxc := hx.m.hcap
  have hyc := hy.m.hcap
  have hxm := hx.m.hmax
  have hym := hy.m.hmax
  have HNO : Hid (¬ (x.id = y.id ∧ x.o.l = y.o.l ∧ x.life = y.life ∧ x.want = y.want ∧ x.n = y.n) → sameC x.p y.p = false) := Lib.hid (fun h => by
    rw [Bool.eq_false_iff, ne_eq, sameC_iff]
    intro e
    refine h ⟨congrArg PCni.id e, congrArg PCni.o e, congrArg PCni.life e, congrArg PCni.want e, ?_⟩
    have := congrArg (fun p => p.ms.length) e
    simp only [RCni.p, List.length_map] at this
    omega)
  have HYES : Hid (x.id = y.id → x.o.l = y.o.l → x.life = y.life → x.want = y.want → x.n = y.n → (∀ i (hi : i < x.ms.length) (hj : i < y.ms.length), i < x.n → sameM x.ms[i].p y.ms[i].p = true) → sameC x.p y.p = true) := Lib.hid (fun h1 h2 h3 h4 h5 h6 => by
    rw [sameC_iff]
    unfold RCni.p
    rw [h1, h2, h3, h4]
    congr 1
    refine List.ext_getElem (by simp; omega) (fun i hi hj => ?_)
    simp only [List.length_map] at hi hj
    simp only [List.getElem_map]
    exact (sameM_iff _ _).1 (h6 i hi hj (by omega)))
  have HBAD : Hid (∀ i (hi : i < x.ms.length) (hj : i < y.ms.length), sameM x.ms[i].p y.ms[i].p = false → sameC x.p y.p = false) := Lib.hid (fun i hi hj h => by
    rw [Bool.eq_false_iff, ne_eq, sameC_iff]
    intro e
    have h2 := congrArg (fun p => p.ms[i]?) e
    simp only [RCni.p, List.getElem?_map, List.getElem?_eq_getElem hi, List.getElem?_eq_getElem hj, Option.map_some, Option.some.injEq] at h2
    rw [h2] at h
    rw [(sameM_iff _ _).2 rfl] at h
    cases h)
  obtain ⟨R, hR⟩ : ∃ R, R = sameC x.p y.p := ⟨_, rfl⟩
  rw [← hR] at HNO HYES HBAD ⊢
  clear hR
  have hs := strOf_beq hx.o.byte hy.o.byte
  clear hx hy
  obtain ⟨xid, ⟨xoa, xolen, xocap, xol⟩, xia, xn, xcap, xms, xlife, xwant⟩ := x
  obtain ⟨yid, ⟨yoa, yolen, yocap, yol⟩, yia, yn, ycap, yms, ylife, ywant⟩ := y
  simp only at HNO HYES HBAD hs hxn hyn hxc hyc hxm hym
  have HXL := Lib.hid hxn
  have HYL := Lib.hid hyn
  clear hxn hyn
  have HK := Lib.hid (((Keeps.refl w).alloc (.cells #[.int .i64 xid, .slice xoa xolen xocap, .slice xia xn xcap, .int .i64 xlife, .int .i64 xwant] 39)).alloc (.cells #[.int .i64 yid, .slice yoa yolen yocap, .slice yia yn ycap, .int .i64 ylife, .int .i64 ywant] 39))
  have hq1 := Row.str (cap := xocap) (HX.out.o.row.keeps HK.out)
  have hq2 := Row.str (cap := yocap) (HY.out.o.row.keeps HK.out)
  simp only at hq1 hq2
  have HB := Lib.hid ((Box.new w 39 #[.int .i64 xid, .slice xoa xolen xocap, .slice xia xn xcap, .int .i64 xlife, .int .i64 xwant]).next (.cells #[.int .i64 yid, .slice yoa yolen yocap, .slice yia yn ycap, .int .i64 ylife, .int .i64 ywant] 39))
  have hz := Box.new (w.alloc (.cells #[.int .i64 xid, .slice xoa xolen xocap, .slice xia xn xcap, .int .i64 xlife, .int .i64 xwant] 39)) 39 #[.int .i64 yid, .slice yoa yolen yocap, .slice yia yn ycap, .int .i64 ylife, .int .i64 ywant]
  rw [World.size_alloc] at hz
  have HZ := Lib.hid hz
  clear hz
  show Calls Try.prog 30 #[.agg #[.int .i64 xid, .slice xoa xolen xocap, .slice xia xn xcap, .int .i64 xlife, .int .i64 xwant], .agg #[.int .i64 yid, .slice yoa yolen yocap, .slice yia yn ycap, .int .i64 ylife, .int .i64 ywant]] w _
  by_cases t0 : xid = yid
  case neg =>
    have d0 : (xid != yid) = true := by rw [bne_iff_ne]; exact t0
    have e0 : (xid == yid) = false := by rw [beq_eq_false_iff_ne]; exact t0
    obtain rfl : R = false := HNO.out (by intro h; first | exact t0 h.1 | exact t0 h.2.1 | exact t0 h.2.2.1 | exact t0 h.2.2.2.1 | exact t0 h.2.2.2.2)
    go_enter Try.func30, Try.ntmps30
    go_wp2_with fail
    go_ret
    exact ⟨rfl, HK.out⟩
  replace HYES := Lib.hid (HYES.out t0)
  subst t0
  have d0 : (xid != xid) = false := by simp
  have e0 : (xid == xid) = true := by simp
  by_cases t1 : xol = yol
  case neg =>
    have d1 := hs
    rw [decide_eq_false t1] at d1
    obtain rfl : R = false := HNO.out (by intro h; first | exact t1 h.1 | exact t1 h.2.1 | exact t1 h.2.2.1 | exact t1 h.2.2.2.1 | exact t1 h.2.2.2.2)
    go_enter Try.func30, Try.ntmps30
    go_wp2_with fail
    go_ret
    exact ⟨rfl, HK.out⟩
  replace HYES := Lib.hid (HYES.out t1)
  have d1 := hs
  rw [decide_eq_true t1] at d1
  clear hs
  subst t1
  by_cases t2 : xlife = ylife
  case neg =>
    have d2 : (xlife != ylife) = true := by rw [bne_iff_ne]; exact t2
    have e2 : (xlife == ylife) = false := by rw [beq_eq_false_iff_ne]; exact t2
    obtain rfl : R = false := HNO.out (by intro h; first | exact t2 h.1 | exact t2 h.2.1 | exact t2 h.2.2.1 | exact t2 h.2.2.2.1 | exact t2 h.2.2.2.2)
    go_enter Try.func30, Try.ntmps30
    go_wp2_with fail
    go_ret
    exact ⟨rfl, HK.out⟩
  replace HYES := Lib.hid (HYES.out t2)
  subst t2
  have d2 : (xlife != xlife) = false := by simp
  have e2 : (xlife == xlife) = true := by simp
  by_cases t3 : xwant = ywant
  case neg =>
    have d3 : (xwant != ywant) = true := by rw [bne_iff_ne]; exact t3
    have e3 : (xwant == ywant) = false := by rw [beq_eq_false_iff_ne]; exact t3
    obtain rfl : R = false := HNO.out (by intro h; first | exact t3 h.1 | exact t3 h.2.1 | exact t3 h.2.2.1 | exact t3 h.2.2.2.1 | exact t3 h.2.2.2.2)
    go_enter Try.func30, Try.ntmps30
    go_wp2_with fail
    go_ret
    exact ⟨rfl, HK.out⟩
  replace HYES := Lib.hid (HYES.out t3)
  subst t3
  have d3 : (xwant != xwant) = false := by simp
  have e3 : (xwant == xwant) = true := by simp
  by_cases t4 : xn = yn
  case neg =>
    have d4 : ((xn : Int) != (yn : Int)) = true := by rw [bne_iff_ne]; omega
    have e4 : ((xn : Int) == (yn : Int)) = false := by rw [beq_eq_false_iff_ne]; omega
    have f4 : (xn == yn) = false := by rw [beq_eq_false_iff_ne]; exact t4
    have g4 : (xn != yn) = true := by rw [bne_iff_ne]; exact t4
    obtain rfl : R = false := HNO.out (by intro h; first | exact t4 h.1 | exact t4 h.2.1 | exact t4 h.2.2.1 | exact t4 h.2.2.2.1 | exact t4 h.2.2.2.2)
    go_enter Try.func30, Try.ntmps30
    go_wp2_with fail
    go_ret
    exact ⟨rfl, HK.out⟩
  replace HYES := Lib.hid (HYES.out t4)
  subst t4
  have d4 : ((xn : Int) != (xn : Int)) = false := by simp
  have e4 : ((xn : Int) == (xn : Int)) = true := by simp
  have f4 : (xn == xn) = true := by simp
  have g4 : (xn != xn) = false := by simp
  clear HNO
  go_enter Try.func30, Try.ntmps30
  go_wp2_with fail
  obtain ⟨W, hW⟩ : ∃ W, W = (w.alloc (.cells #[.int .i64 xid, .slice xoa xolen xocap, .slice xia xn xcap, .int .i64 xlife, .int .i64 xwant] 39)).alloc (.cells #[.int .i64 xid, .slice yoa yolen yocap, .slice yia xn ycap, .int .i64 xlife, .int .i64 xwant] 39) := ⟨_, rfl⟩
  rw [← hW] at HK HB HZ ⊢
  clear hW d0 d1 d2 d3 e0 e2 e3 hq1 hq2
  go_loopw [5] (fun i wr => ∃ k : Nat, k ≤ xn ∧ i = .int .i64 k ∧ Hid (∀ i (hi : i < xms.length) (hj : i < yms.length), i < k → sameM xms[i].p yms[i].p = true) ∧ Hid (Box wr w.heap.size 39 #[.int .i64 xid, .slice xoa xolen xocap, .slice xia xn xcap, .int .i64 xlife, .int .i64 xwant]) ∧ Hid (Box wr (w.heap.size + 1) 39 #[.int .i64 xid, .slice yoa yolen yocap, .slice yia xn ycap, .int .i64 xlife, .int .i64 xwant]) ∧ Hid (Keeps w wr)) (fun i _ => xn - (intOf i).toNat)
  case atStart => exact ⟨0, Nat.zero_le _, rfl, Lib.hid (fun i _ _ hi => absurd hi (by omega)), HB, HZ, HK⟩
  case round =>
    clear HB HZ HK
    obtain ⟨k, hk, rfl, HI, HB, HZ, HK⟩ := hrel
    have b0 := HB.out.cell 0 _ rfl
    have b1 := HB.out.cell 1 _ rfl
    have b2 := HB.out.cell 2 _ rfl
    have b3 := HB.out.cell 3 _ rfl
    have b4 := HB.out.cell 4 _ rfl
    have bl := HB.out.lt
    have z0 := HZ.out.cell 0 _ rfl
    have z1 := HZ.out.cell 1 _ rfl
    have z2 := HZ.out.cell 2 _ rfl
    have z3 := HZ.out.cell 3 _ rfl
    have z4 := HZ.out.cell 4 _ rfl
    have zl := HZ.out.lt
    by_cases hlt : k < xn
    · have hkx : k < xms.length := by rw [HXL.out]; exact hlt
      have hky : k < yms.length := by rw [HYL.out]; exact hlt
      obtain ⟨b, off, hab, hcell⟩ := HX.out.m.addr (show 0 < xms.length by omega)
      obtain ⟨c, cff, hcb, hcell2⟩ := HY.out.m.addr (show 0 < yms.length by omega)
      simp only at hab hcb
      subst hab
      subst hcb
      obtain ⟨hc0, hc1⟩ := hcell k hkx
      obtain ⟨hd0, hd1⟩ := hcell2 k hky
      replace hc0 := HK.out.later hc0
      replace hc1 := HK.out.later hc1
      replace hd0 := HK.out.later hd0
      replace hd1 := HK.out.later hd1
      have hxi := (HX.out.m.isIn _ (List.getElem_mem hkx)).keeps HK.out
      have hyi := (HY.out.m.isIn _ (List.getElem_mem hky)).keeps HK.out
      clear hcell hcell2
      have HBK := Lib.hid (HBAD.out k hkx hky)
      have HYS : Hid (sameM xms[k].p yms[k].p = true → ∀ i (hi : i < xms.length) (hj : i < yms.length), i < k + 1 → sameM xms[i].p yms[i].p = true) := fun h i hi hj hik => by
        by_cases e : i = k
        · subst e; exact h
        · exact HI.out i hi hj (by omega)
      obtain ⟨u, hu⟩ : ∃ u, u = xms[k] := ⟨_, rfl⟩
      obtain ⟨v, hv⟩ : ∃ v, v = yms[k] := ⟨_, rfl⟩
      simp only at hc0 hc1 hd0 hd1
      rw [← hu] at hc0 hc1 HBK HYS hxi
      rw [← hv] at hd0 hd1 HBK HYS hyi
      clear hu hv HI hkx hky
      have hs := strOf_beq hxi.byte hyi.byte
      have hq1 := fun n : Nat => Row.str (cap := u.d.cap) (hxi.row.keeps ((Keeps.refl wr).drewN n))
      have hq2 := fun n : Nat => Row.str (cap := v.d.cap) (hyi.row.keeps ((Keeps.refl wr).drewN n))
      clear hxi hyi
      obtain ⟨⟨da, dlen, dcap, dl⟩, age⟩ := u
      obtain ⟨⟨ga, glen, gcap, gl⟩, age2⟩ := v
      simp only at hc0 hc1 hd0 hd1 hs hq1 hq2 HBK HYS
      have HSM : Hid (sameM (RMsg.p ⟨⟨da, dlen, dcap, dl⟩, age⟩) (RMsg.p ⟨⟨ga, glen, gcap, gl⟩, age2⟩) = (decide (dl = gl) && decide (age = age2))) := Lib.hid rfl
      by_cases hdl : dl = gl
      · rw [decide_eq_true hdl] at hs HSM
        by_cases ha : age = age2
        · have d6 : (age != age2) = false := by rw [bne_eq_false_iff_eq]; exact ha
          have e6 : (age == age2) = true := by rw [beq_iff_eq]; exact ha
          rw [decide_eq_true ha] at HSM
          have HE := Lib.hid (HYS.out HSM.out)
          clear hdl ha HYS HBK
          go_wp2_with fail
          go_quiet (fail)
          go_wp2_with fail
          go_roundw
          case rel => exact ⟨k + 1, by omega, by go_num, HE, HB.out.keeps ((Keeps.refl _).drewN _), HZ.out.keeps ((Keeps.refl _).drewN _), HK.out.drewN _⟩
          case measure => simp [intOf]; omega
        · have d6 : (age != age2) = true := by rw [bne_iff_ne]; exact ha
          have e6 : (age == age2) = false := by rw [beq_eq_false_iff_ne]; exact ha
          rw [decide_eq_false ha] at HSM
          obtain rfl : R = false := HBK.out HSM.out
          clear hdl ha HYS HBK
          go_wp2_with fail
          go_quiet (fail)
          go_wp2_with fail
          go_ret
          exact ⟨rfl, HK.out.drewN _⟩
      · rw [decide_eq_false hdl] at hs HSM
        obtain rfl : R = false := HBK.out HSM.out
        clear hdl HYS HBK
        go_wp2_with fail
        go_quiet (fail)
        go_wp2_with fail
        go_ret
        exact ⟨rfl, HK.out.drewN _⟩
    · obtain rfl : k = xn := by omega
      obtain rfl : R = true := HYES.out HI.out
      go_wp2_with fail
      go_ret
      exact ⟨rfl, HK.out⟩
end Go.Proofs.Ytcophhdlcjemeaa
