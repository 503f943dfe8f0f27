/- The walk of CniController. -/
import Derived.Test.YtcophhdlcjemeaaC20
import Derived.Test.YtcophhdlcjemeaaK9
import Derived.Test.YtcophhdlcjemeaaK14
import Derived.Test.YtcophhdlcjemeaaK16
import Derived.Test.YtcophhdlcjemeaaK17
import Derived.Test.YtcophhdlcjemeaaK20
import Derived.Deep.RegionHeld3
import Derived.Deep.DeepCutAuto
namespace Go.Proofs.Ytcophhdlcjemeaa
open Go.RowKit
set_option linter.unusedVariables false
set_option linter.unusedSimpArgs false
theorem Ints.cut {w : World} {a : Option Addr} {n cap : Nat} {zs : List Int} (h : Ints w (.slice a n cap) zs) (m : Nat) (hm : m ≤ zs.length) : Ints w (.slice a m cap) (zs.take m) := by
  obtain ⟨a', cap', he, h1, h2, h3⟩ := h.shape
  simp only [Value.slice.injEq] at he
  obtain ⟨rfl, rfl, rfl⟩ := he
  have hl : (zs.take m).length = m := by rw [List.length_take]; omega
  refine ⟨a, cap, by rw [hl], by omega, h2, by rw [List.length_map, hl], fun i hi => ?_⟩
  rw [hl] at hi
  obtain ⟨b, off, hab, hc⟩ := h3.2 i (by omega)
  refine ⟨b, off, hab, hc.trans ?_⟩
  simp [List.getElem?_take, hi]
/-- an interface is stored in another one's box -/
theorem Box.putO {w : World} {B C t : Nat} {x : Array Value} (h : Box w B t x) (hne : B ≠ C) (c : RCni) : Box (Go.Proofs.Ytcophhdlcjemeaa.putC w C c) B t x :=
  ((((h.keepsBut (KeepsBut.setCell _ C 0 _) hne).keepsBut (KeepsBut.setCell _ C 1 _) hne).keepsBut (KeepsBut.setCell _ C 2 _) hne).keepsBut (KeepsBut.setCell _ C 3 _) hne).keepsBut (KeepsBut.setCell _ C 4 _) hne
set_option maxHeartbeats 400000 in
theorem few_any (c : RCni) (w : World) : Calls Try.prog 26 #[c.val] w fun e w' => e = .returned (.bool (decide (c.n ≤ 20))) ∧ Keeps w w' := by
  obtain ⟨id, ⟨oa, olen, ocap, ol⟩, ia, n, cap, ms, life, want⟩ := c
  have HK := Lib.hid ((Keeps.refl w).alloc (.cells #[.int .i64 id, .slice oa olen ocap, .slice ia n cap, .int .i64 life, .int .i64 want] 39))
  show Calls Try.prog 26 #[.agg #[.int .i64 id, .slice oa olen ocap, .slice ia n cap, .int .i64 life, .int .i64 want]] w _
  go_enter Try.func26, Try.ntmps26
  go_wp2_with fail
  go_ret
  exact ⟨ret_bool (by simp; omega), HK.out⟩
set_option maxRecDepth 100000 in
set_option maxHeartbeats 8000000 in
theorem cniController_any (c : RCni) (slot long : Int) (d : RY) (age : Int) (most : Nat) (w : World) (hc : c.In w) (hd : d.In w) (hm : most < 256) (h47 : c.o.len ≤ 140737488355328) (h48 : ∀ x ∈ c.ms, x.d.len ≤ 140737488355328) :
    Calls Try.prog 6 #[c.val, .int .i64 slot, .int .i64 long, .slice d.a d.len d.cap, .int .i64 age, .int .u8 most] w fun e w' => e = .returned (.bool true) ∧ Keeps w w' := by
  have HC := Lib.hid hc
  have HD := Lib.hid hd
  have HSE : Hid (∀ w, c.In w → Calls Try.prog 18 #[c.val, .int .i64 long] w (BytesPost (sendP c.p long) (sendE c.p long) w)) := Lib.hid (send_any c long)
  have HRSE : Hid (∀ w, c.In w → Calls Try.prog 28 #[c.val, .int .i64 long] w (BytesPost (sendP c.p long) (sendE c.p long) w)) := Lib.hid (rsend_any c long)
  have HDE : Hid (∀ w, c.In w → d.In w → Calls Try.prog 24 #[c.val, .int .i64 slot, .slice d.a d.len d.cap] w (CniPost (delivP c.p slot d.l) (delivE c.p slot d.l) w)) := Lib.hid (deliver_any c slot d)
  have HRDE : Hid (∀ w, c.In w → d.In w → Calls Try.prog 29 #[c.val, .int .i64 slot, .slice d.a d.len d.cap] w (CniPost (delivP c.p slot d.l) (delivE c.p slot d.l) w)) := Lib.hid (rdeliver_any c slot d)
  have HRO : Hid (∀ w, c.In w → Calls Try.prog 17 #[c.val] w (CniPost (roundP c.p) (ownE c.p) w)) := Lib.hid (round12_any c)
  have HRRO : Hid (∀ w, c.In w → Calls Try.prog 31 #[c.val] w (CniPost (roundP c.p) (ownE c.p) w)) := Lib.hid (rround_any c)
  have HFR : Hid (∀ w, c.In w → Calls Try.prog 32 #[c.val, .int .i64 age] w fun e w' => ∃ v, e = .returned v ∧ Own w' (w.heap.size + 1) 3 v (i64s (freshP c.p age)) ∧ Keeps w w') := Lib.hid (rfresh_any c age)
  have HCL : Hid (c.n ≤ 20 → ∀ w, c.In w → Calls Try.prog 27 #[c.val] w (ClonePost c.p w)) := Lib.hid (fun h w hc => clone12_any c w hc ⟨h, h47, h48⟩)
  have HCH : Hid (∀ w, c.In w → Calls Try.prog 33 #[c.val] w fun e w' => e = .returned (.int .i64 (cond (cniOk c.p) 0 120)) ∧ Keeps w w') := Lib.hid (rccheck_any c)
  have HAL : Hid (∀ w, c.In w → Calls Try.prog 20 #[c.val] w fun e w' => e = .returned (.bool (aliveP c.p)) ∧ Keeps w w') := Lib.hid (alive_any c)
  have HTO : Hid (∀ (w : World) (hc : c.In w) (most : Nat) (av : Int) (hav : av = most) (hm : most ≤ 100000), Calls Try.prog 35 #[.func (.func 65) #[] #[.pointer (some ⟨w.heap.size, 0, none⟩), .pointer (some ⟨w.heap.size + 1, 0, none⟩)], .int .i64 av] ((w.alloc (.cells #[.int .i64 c.id, .slice c.o.a c.o.len c.o.cap, .slice c.ia c.n c.cap, .int .i64 c.life, .int .i64 c.want] 39)).alloc (.cells #[.int .i64 age] 3)) fun e w' =>
        ∃ v, e = .returned v ∧ Ints w' v (((freshP c.p age).take most).map fun j : Nat => (j : Int)) ∧ Keeps w w') := Lib.hid (fresh_told c age)
  have HAE : Hid (aliveP c.p = (cniOk c.p && decide (0 < c.life))) := Lib.hid rfl
  have HPE : Hid (∀ q : PCni, q = c.p → sameC c.p q = true) := Lib.hid (fun q h => by rw [h]; exact sameC_self _)
  have hdm := Nat.le_trans hd.cap hd.max
  have hF99 : (freshP c.p age).length ≤ c.n := by
    have h1 := hc.m.len
    unfold freshP
    cases cniOk c.p
    · simp
    · simp only [cond_true]
      refine Nat.le_trans (freshTo_le _ _ _) ?_
      simp only [RCni.p, List.length_map]
      omega
  clear hc hd h47 h48
  obtain ⟨P1, hP1⟩ : ∃ P1, P1 = sendP c.p long := ⟨_, rfl⟩
  rw [← hP1] at HSE HRSE
  obtain ⟨E1, hE1⟩ : ∃ E1, E1 = sendE c.p long := ⟨_, rfl⟩
  rw [← hE1] at HSE HRSE
  obtain ⟨P2, hP2⟩ : ∃ P2, P2 = delivP c.p slot d.l := ⟨_, rfl⟩
  rw [← hP2] at HDE HRDE
  obtain ⟨E2, hE2⟩ : ∃ E2, E2 = delivE c.p slot d.l := ⟨_, rfl⟩
  rw [← hE2] at HDE HRDE
  obtain ⟨P3, hP3⟩ : ∃ P3, P3 = roundP c.p := ⟨_, rfl⟩
  rw [← hP3] at HRO HRRO
  obtain ⟨E3, hE3⟩ : ∃ E3, E3 = ownE c.p := ⟨_, rfl⟩
  rw [← hE3] at HRO HRRO
  obtain ⟨FL, hFL⟩ : ∃ FL, FL = freshP c.p age := ⟨_, rfl⟩
  rw [← hFL] at HFR HTO hF99
  obtain ⟨A, hA⟩ : ∃ A, A = aliveP c.p := ⟨_, rfl⟩
  rw [← hA] at HAL HAE
  obtain ⟨O, hO⟩ : ∃ O, O = cniOk c.p := ⟨_, rfl⟩
  rw [← hO] at HCH HAE
  obtain ⟨PC, hPC⟩ : ∃ PC, PC = c.p := ⟨_, rfl⟩
  rw [← hPC] at HCL HPE
  have HPC := Lib.hid hPC
  clear hP1 hE1 hP2 hE2 hP3 hE3 hFL hA hO hPC
  obtain ⟨id, ⟨oa, olen, ocap, ol⟩, ia, n, cap, ms, life, want⟩ := c
  obtain ⟨da, dlen, dcap, dl⟩ := d
  simp only at hdm HCL HAE hF99
  have HK := Lib.hid ((Keeps.refl w).alloc (.cells #[.int .i64 id, .slice oa olen ocap, .slice ia n cap, .int .i64 life, .int .i64 want] 39))
  have HB := Lib.hid (Box.new w 39 #[.int .i64 id, .slice oa olen ocap, .slice ia n cap, .int .i64 life, .int .i64 want])
  show Calls Try.prog 6 #[.agg #[.int .i64 id, .slice oa olen ocap, .slice ia n cap, .int .i64 life, .int .i64 want], .int .i64 slot, .int .i64 long, .slice da dlen dcap, .int .i64 age, .int .u8 most] w _
  go_enter Try.func6, Try.ntmps6
  go_wp2_with fail
  (with_reducible refine (begun12_any _).mono ?_)
  rintro e w1 ⟨rfl, hk1⟩
  replace HK := Lib.hid (HK.out.trans hk1)
  replace HB := Lib.hid (HB.out.keeps hk1)
  clear hk1
  have b0 := HB.out.cell 0 _ rfl
  have b1 := HB.out.cell 1 _ rfl
  have b2 := HB.out.cell 2 _ rfl
  have b3 := HB.out.cell 3 _ rfl
  have b4 := HB.out.cell 4 _ rfl
  have bl := HB.out.lt
  have bf := HB.out.frozen
  go_wp2_with fail
  (with_reducible refine (few_any ⟨id, ⟨oa, olen, ocap, ol⟩, ia, n, cap, ms, life, want⟩ _).mono ?_)
  rintro e w2 ⟨rfl, hk1⟩
  simp only
  replace HK := Lib.hid (HK.out.trans hk1)
  replace HB := Lib.hid (HB.out.keeps hk1)
  clear hk1
  clear b0 b1 b2 b3 b4 bl bf
  have b0 := HB.out.cell 0 _ rfl
  have b1 := HB.out.cell 1 _ rfl
  have b2 := HB.out.cell 2 _ rfl
  have b3 := HB.out.cell 3 _ rfl
  have b4 := HB.out.cell 4 _ rfl
  have bl := HB.out.lt
  have bf := HB.out.frozen
  by_cases h20 : n ≤ 20
  case neg =>
    have d1 : decide (n ≤ 20) = false := decide_eq_false h20
    have d2 : decide ((n : Int) ≤ 20) = false := by simp; omega
    go_wp2_with fail
    (with_reducible refine (begun12_any _).mono ?_)
    rintro e w3 ⟨rfl, hk1⟩
    replace HK := Lib.hid (HK.out.trans hk1)
    clear hk1
    go_wp2_with fail
    go_ret
    exact ⟨rfl, HK.out⟩
  have d1 : decide (n ≤ 20) = true := decide_eq_true h20
  have d2 : decide ((n : Int) ≤ 20) = true := by simp; omega
  replace HCL := Lib.hid (HCL.out h20)
  go_wp2_with fail
  (with_reducible refine (HCL.out _ (by exact HC.out.keeps HK.out)).mono ?_)
  rintro e w3 ⟨⟨zid, ⟨zoa, zolen, zocap, zol⟩, zia, zn, zcap, zms, zlife, zwant⟩, he, hp, ho, hk1⟩
  have he2 : e = .returned (.agg #[.int .i64 zid, .slice zoa zolen zocap, .slice zia zn zcap, .int .i64 zlife, .int .i64 zwant]) := he
  clear he
  subst he2
  have HZP := Lib.hid (HPE.out _ hp)
  have HZI := Lib.hid ho.isIn
  have HKZ := Lib.hid (Keeps.refl w3)
  replace HK := Lib.hid (HK.out.trans hk1)
  replace HB := Lib.hid (HB.out.keeps hk1)
  clear hk1 hp ho HCL HPE
  clear b0 b1 b2 b3 b4 bl bf
  have HZB := Lib.hid (Box.new w3 39 #[.int .i64 zid, .slice zoa zolen zocap, .slice zia zn zcap, .int .i64 zlife, .int .i64 zwant])
  replace HK := Lib.hid (HK.out.alloc (.cells #[.int .i64 zid, .slice zoa zolen zocap, .slice zia zn zcap, .int .i64 zlife, .int .i64 zwant] 39))
  replace HB := Lib.hid (HB.out.next (.cells #[.int .i64 zid, .slice zoa zolen zocap, .slice zia zn zcap, .int .i64 zlife, .int .i64 zwant] 39))
  replace HKZ := Lib.hid (HKZ.out.alloc (.cells #[.int .i64 zid, .slice zoa zolen zocap, .slice zia zn zcap, .int .i64 zlife, .int .i64 zwant] 39))
  have b0 := HB.out.cell 0 _ rfl
  have b1 := HB.out.cell 1 _ rfl
  have b2 := HB.out.cell 2 _ rfl
  have b3 := HB.out.cell 3 _ rfl
  have b4 := HB.out.cell 4 _ rfl
  have bl := HB.out.lt
  have bf := HB.out.frozen
  go_wp2_with fail
  (with_reducible refine (HSE.out _ (by exact HC.out.keeps HK.out)).mono ?_)
  rintro e w4 ⟨⟨pa, plen, pcap, pl⟩, he, hp, hi, hk1⟩
  have he2 : e = .returned (.tuple #[.slice pa plen pcap, .int .i64 E1]) := he
  clear he
  subst he2
  have HpL : Hid (pl = P1) := Lib.hid hp
  have HpI := Lib.hid hi
  replace HK := Lib.hid (HK.out.trans hk1)
  replace HB := Lib.hid (HB.out.keeps hk1)
  replace HKZ := Lib.hid (HKZ.out.trans hk1)
  replace HZB := Lib.hid (HZB.out.keeps hk1)
  clear hk1 hp hi HSE
  clear b0 b1 b2 b3 b4 bl bf
  have b0 := HB.out.cell 0 _ rfl
  have b1 := HB.out.cell 1 _ rfl
  have b2 := HB.out.cell 2 _ rfl
  have b3 := HB.out.cell 3 _ rfl
  have b4 := HB.out.cell 4 _ rfl
  have bl := HB.out.lt
  have bf := HB.out.frozen
  go_wp2_with fail
  (with_reducible refine (HRSE.out _ (by exact HC.out.keeps HK.out)).mono ?_)
  rintro e w5 ⟨⟨qa, qlen, qcap, ql⟩, he, hp, hi, hk1⟩
  have he2 : e = .returned (.tuple #[.slice qa qlen qcap, .int .i64 E1]) := he
  clear he
  subst he2
  have HqL : Hid (ql = P1) := Lib.hid hp
  have HqI := Lib.hid hi
  replace HK := Lib.hid (HK.out.trans hk1)
  replace HB := Lib.hid (HB.out.keeps hk1)
  replace HKZ := Lib.hid (HKZ.out.trans hk1)
  replace HZB := Lib.hid (HZB.out.keeps hk1)
  replace HpI := Lib.hid (HpI.out.keeps hk1)
  clear hk1 hp hi HRSE
  clear b0 b1 b2 b3 b4 bl bf
  have b0 := HB.out.cell 0 _ rfl
  have b1 := HB.out.cell 1 _ rfl
  have b2 := HB.out.cell 2 _ rfl
  have b3 := HB.out.cell 3 _ rfl
  have b4 := HB.out.cell 4 _ rfl
  have bl := HB.out.lt
  have bf := HB.out.frozen
  have HEQ : Hid (eqY ⟨pa, plen, pcap, pl⟩ ⟨qa, qlen, qcap, ql⟩ = true) := Lib.hid (decide_eq_true (HpL.out.trans HqL.out.symm))
  go_wp2_with fail
  (with_reducible refine (bytesEq_any ⟨pa, plen, pcap, pl⟩ ⟨qa, qlen, qcap, ql⟩ _ (by exact HpI.out) (by exact HqI.out)).mono ?_)
  rw [HEQ.out]
  rintro e w6 ⟨rfl, rfl⟩
  clear HEQ HpI HqI HpL HqL
  go_wp2_with fail
  (with_reducible refine (HDE.out _ (by exact HC.out.keeps HK.out) (by exact HD.out.keeps HK.out)).mono ?_)
  rintro e w6 ⟨⟨xid, ⟨xoa, xolen, xocap, xol⟩, xia, xn, xcap, xms, xlife, xwant⟩, he, hp, ho, hk1⟩
  have he2 : e = .returned (.tuple #[.agg #[.int .i64 xid, .slice xoa xolen xocap, .slice xia xn xcap, .int .i64 xlife, .int .i64 xwant], .int .i64 E2]) := he
  clear he
  subst he2
  have HxP := Lib.hid hp
  have HxI := Lib.hid ho.isIn
  replace HK := Lib.hid (HK.out.trans hk1)
  replace HB := Lib.hid (HB.out.keeps hk1)
  replace HKZ := Lib.hid (HKZ.out.trans hk1)
  replace HZB := Lib.hid (HZB.out.keeps hk1)
  clear hk1 hp ho HDE
  clear b0 b1 b2 b3 b4 bl bf
  have hq5 : w3.heap.size < w6.heap.size := HZB.out.lt
  have hq6 : w.heap.size < w6.heap.size := HB.out.lt
  have HxB := Lib.hid (Box.new w6 39 #[.int .i64 xid, .slice xoa xolen xocap, .slice xia xn xcap, .int .i64 xlife, .int .i64 xwant])
  replace HK := Lib.hid (HK.out.alloc (.cells #[.int .i64 xid, .slice xoa xolen xocap, .slice xia xn xcap, .int .i64 xlife, .int .i64 xwant] 39))
  replace HB := Lib.hid (HB.out.next (.cells #[.int .i64 xid, .slice xoa xolen xocap, .slice xia xn xcap, .int .i64 xlife, .int .i64 xwant] 39))
  replace HKZ := Lib.hid (HKZ.out.alloc (.cells #[.int .i64 xid, .slice xoa xolen xocap, .slice xia xn xcap, .int .i64 xlife, .int .i64 xwant] 39))
  replace HZB := Lib.hid (HZB.out.next (.cells #[.int .i64 xid, .slice xoa xolen xocap, .slice xia xn xcap, .int .i64 xlife, .int .i64 xwant] 39))
  replace HxI := Lib.hid (HxI.out.keeps ((Keeps.refl _).alloc (.cells #[.int .i64 xid, .slice xoa xolen xocap, .slice xia xn xcap, .int .i64 xlife, .int .i64 xwant] 39)))
  have b0 := HB.out.cell 0 _ rfl
  have b1 := HB.out.cell 1 _ rfl
  have b2 := HB.out.cell 2 _ rfl
  have b3 := HB.out.cell 3 _ rfl
  have b4 := HB.out.cell 4 _ rfl
  have bl := HB.out.lt
  have bf := HB.out.frozen
  go_wp2_with fail
  (with_reducible refine (HRDE.out _ (by exact HC.out.keeps HK.out) (by exact HD.out.keeps HK.out)).mono ?_)
  rintro e w7 ⟨⟨yid, ⟨yoa, yolen, yocap, yol⟩, yia, yn, ycap, yms, ylife, ywant⟩, he, hp, ho, hk1⟩
  have he2 : e = .returned (.tuple #[.agg #[.int .i64 yid, .slice yoa yolen yocap, .slice yia yn ycap, .int .i64 ylife, .int .i64 ywant], .int .i64 E2]) := he
  clear he
  subst he2
  have HyP := Lib.hid hp
  have HyI := Lib.hid ho.isIn
  replace HK := Lib.hid (HK.out.trans hk1)
  replace HB := Lib.hid (HB.out.keeps hk1)
  replace HKZ := Lib.hid (HKZ.out.trans hk1)
  replace HZB := Lib.hid (HZB.out.keeps hk1)
  replace HxI := Lib.hid (HxI.out.keeps hk1)
  replace HxB := Lib.hid (HxB.out.keeps hk1)
  clear hk1 hp ho HRDE
  clear b0 b1 b2 b3 b4 bl bf
  have hq7 : w6.heap.size < w7.heap.size := HxB.out.lt
  have HyB := Lib.hid (Box.new w7 39 #[.int .i64 yid, .slice yoa yolen yocap, .slice yia yn ycap, .int .i64 ylife, .int .i64 ywant])
  replace HK := Lib.hid (HK.out.alloc (.cells #[.int .i64 yid, .slice yoa yolen yocap, .slice yia yn ycap, .int .i64 ylife, .int .i64 ywant] 39))
  replace HB := Lib.hid (HB.out.next (.cells #[.int .i64 yid, .slice yoa yolen yocap, .slice yia yn ycap, .int .i64 ylife, .int .i64 ywant] 39))
  replace HKZ := Lib.hid (HKZ.out.alloc (.cells #[.int .i64 yid, .slice yoa yolen yocap, .slice yia yn ycap, .int .i64 ylife, .int .i64 ywant] 39))
  replace HZB := Lib.hid (HZB.out.next (.cells #[.int .i64 yid, .slice yoa yolen yocap, .slice yia yn ycap, .int .i64 ylife, .int .i64 ywant] 39))
  replace HxI := Lib.hid (HxI.out.keeps ((Keeps.refl _).alloc (.cells #[.int .i64 yid, .slice yoa yolen yocap, .slice yia yn ycap, .int .i64 ylife, .int .i64 ywant] 39)))
  replace HxB := Lib.hid (HxB.out.next (.cells #[.int .i64 yid, .slice yoa yolen yocap, .slice yia yn ycap, .int .i64 ylife, .int .i64 ywant] 39))
  replace HyI := Lib.hid (HyI.out.keeps ((Keeps.refl _).alloc (.cells #[.int .i64 yid, .slice yoa yolen yocap, .slice yia yn ycap, .int .i64 ylife, .int .i64 ywant] 39)))
  have b0 := HB.out.cell 0 _ rfl
  have b1 := HB.out.cell 1 _ rfl
  have b2 := HB.out.cell 2 _ rfl
  have b3 := HB.out.cell 3 _ rfl
  have b4 := HB.out.cell 4 _ rfl
  have bl := HB.out.lt
  have bf := HB.out.frozen
  have HSM : Hid (sameC (RCni.p ⟨xid, ⟨xoa, xolen, xocap, xol⟩, xia, xn, xcap, xms, xlife, xwant⟩) (RCni.p ⟨yid, ⟨yoa, yolen, yocap, yol⟩, yia, yn, ycap, yms, ylife, ywant⟩) = true) := Lib.hid (by rw [HxP.out, HyP.out]; exact sameC_self _)
  have x0 := HxB.out.cell 0 _ rfl
  have x1 := HxB.out.cell 1 _ rfl
  have x2 := HxB.out.cell 2 _ rfl
  have x3 := HxB.out.cell 3 _ rfl
  have x4 := HxB.out.cell 4 _ rfl
  have xl := HxB.out.lt
  have xf := HxB.out.frozen
  have y0 := HyB.out.cell 0 _ rfl
  have y1 := HyB.out.cell 1 _ rfl
  have y2 := HyB.out.cell 2 _ rfl
  have y3 := HyB.out.cell 3 _ rfl
  have y4 := HyB.out.cell 4 _ rfl
  have yl := HyB.out.lt
  have yf := HyB.out.frozen
  go_wp2_with fail
  (with_reducible refine (rsame12_any ⟨xid, ⟨xoa, xolen, xocap, xol⟩, xia, xn, xcap, xms, xlife, xwant⟩ ⟨yid, ⟨yoa, yolen, yocap, yol⟩, yia, yn, ycap, yms, ylife, ywant⟩ _ (by exact HxI.out) (by exact HyI.out)).mono ?_)
  rw [HSM.out]
  rintro e w8 ⟨rfl, hk1⟩
  replace HK := Lib.hid (HK.out.trans hk1)
  replace HB := Lib.hid (HB.out.keeps hk1)
  replace HKZ := Lib.hid (HKZ.out.trans hk1)
  replace HZB := Lib.hid (HZB.out.keeps hk1)
  replace HxB := Lib.hid (HxB.out.keeps hk1)
  replace HyB := Lib.hid (HyB.out.keeps hk1)
  clear hk1 HSM HxI HyI HxP HyP
  clear b0 b1 b2 b3 b4 bl bf
  clear x0 x1 x2 x3 x4 xl xf
  clear y0 y1 y2 y3 y4 yl yf
  have b0 := HB.out.cell 0 _ rfl
  have b1 := HB.out.cell 1 _ rfl
  have b2 := HB.out.cell 2 _ rfl
  have b3 := HB.out.cell 3 _ rfl
  have b4 := HB.out.cell 4 _ rfl
  have bl := HB.out.lt
  have bf := HB.out.frozen
  have x0 := HxB.out.cell 0 _ rfl
  have x1 := HxB.out.cell 1 _ rfl
  have x2 := HxB.out.cell 2 _ rfl
  have x3 := HxB.out.cell 3 _ rfl
  have x4 := HxB.out.cell 4 _ rfl
  have xl := HxB.out.lt
  have xf := HxB.out.frozen
  obtain ⟨X, hX⟩ : ∃ X, X = w6.heap.size := ⟨_, rfl⟩
  obtain ⟨Y, hY⟩ : ∃ Y, Y = w7.heap.size := ⟨_, rfl⟩
  have hwX : w.heap.size < X := by rw [hX]; exact hq6
  have hzX : w3.heap.size < X := by rw [hX]; exact hq5
  have hXY : X < Y := by rw [hX, hY]; exact hq7
  rw [← hX] at HxB xl x0 x1 x2 x3 x4 xf ⊢
  rw [← hY] at HyB ⊢
  clear hX hY hq5 hq6 hq7
  go_wp2_with fail
  (with_reducible refine (HRO.out _ (by exact HC.out.keeps HK.out)).mono ?_)
  rintro e w9 ⟨⟨uid, ⟨uoa, uolen, uocap, uol⟩, uia, un, ucap, ums, ulife, uwant⟩, he, hp, ho, hk1⟩
  have he2 : e = .returned (.tuple #[.agg #[.int .i64 uid, .slice uoa uolen uocap, .slice uia un ucap, .int .i64 ulife, .int .i64 uwant], .int .i64 E3]) := he
  clear he
  subst he2
  have HuP := Lib.hid hp
  have hYw : Y < w8.heap.size := HyB.out.lt
  have HuO : Hid (RCni.Own ⟨uid, ⟨uoa, uolen, uocap, uol⟩, uia, un, ucap, ums, ulife, uwant⟩ w9 (Y + 1)) := Lib.hid (ho.mono (by omega))
  replace HK := Lib.hid (HK.out.trans hk1)
  replace HB := Lib.hid (HB.out.keeps hk1)
  replace HKZ := Lib.hid (HKZ.out.trans hk1)
  replace HZB := Lib.hid (HZB.out.keeps hk1)
  replace HxB := Lib.hid (HxB.out.keeps hk1)
  replace HyB := Lib.hid (HyB.out.keeps hk1)
  clear hk1 hp ho HRO
  clear b0 b1 b2 b3 b4 bl bf
  clear x0 x1 x2 x3 x4 xl xf
  have b0 := HB.out.cell 0 _ rfl
  have b1 := HB.out.cell 1 _ rfl
  have b2 := HB.out.cell 2 _ rfl
  have b3 := HB.out.cell 3 _ rfl
  have b4 := HB.out.cell 4 _ rfl
  have bl := HB.out.lt
  have bf := HB.out.frozen
  have x0 := HxB.out.cell 0 _ rfl
  have x1 := HxB.out.cell 1 _ rfl
  have x2 := HxB.out.cell 2 _ rfl
  have x3 := HxB.out.cell 3 _ rfl
  have x4 := HxB.out.cell 4 _ rfl
  have xl := HxB.out.lt
  have xf := HxB.out.frozen
  go_upto_region 13 with fail
  obtain ⟨W9, hW9⟩ : ∃ W, W = (((((w9.setCell ⟨X, 0, none⟩ (.int .i64 uid)).setCell ⟨X, 1, none⟩ (.slice uoa uolen uocap)).setCell ⟨X, 2, none⟩ (.slice uia un ucap)).setCell ⟨X, 3, none⟩ (.int .i64 ulife)).setCell ⟨X, 4, none⟩ (.int .i64 uwant)) := ⟨_, rfl⟩
  have HxB2 : Hid (Box W9 X 39 #[.int .i64 uid, .slice uoa uolen uocap, .slice uia un ucap, .int .i64 ulife, .int .i64 uwant]) := Lib.hid (by rw [hW9]; exact Box.putC (x := ⟨xid, ⟨xoa, xolen, xocap, xol⟩, xia, xn, xcap, xms, xlife, xwant⟩) HxB.out ⟨uid, ⟨uoa, uolen, uocap, uol⟩, uia, un, ucap, ums, ulife, uwant⟩)
  have HuO2 : Hid (RCni.Own ⟨uid, ⟨uoa, uolen, uocap, uol⟩, uia, un, ucap, ums, ulife, uwant⟩ W9 (Y + 1)) := Lib.hid (by rw [hW9]; exact HuO.out.putC (C := X) (by omega) ⟨uid, ⟨uoa, uolen, uocap, uol⟩, uia, un, ucap, ums, ulife, uwant⟩)
  have HK2 : Hid (Keeps w W9) := Lib.hid (by rw [hW9]; exact HK.out.putC (C := X) (by omega) ⟨uid, ⟨uoa, uolen, uocap, uol⟩, uia, un, ucap, ums, ulife, uwant⟩)
  have HKZ2 : Hid (Keeps w3 W9) := Lib.hid (by rw [hW9]; exact HKZ.out.putC (C := X) (by omega) ⟨uid, ⟨uoa, uolen, uocap, uol⟩, uia, un, ucap, ums, ulife, uwant⟩)
  have HB2 : Hid (Box W9 w.heap.size 39 #[.int .i64 id, .slice oa olen ocap, .slice ia n cap, .int .i64 life, .int .i64 want]) := Lib.hid (by rw [hW9]; exact Box.putO HB.out (by omega) ⟨uid, ⟨uoa, uolen, uocap, uol⟩, uia, un, ucap, ums, ulife, uwant⟩)
  have HZB2 : Hid (Box W9 w3.heap.size 39 #[.int .i64 zid, .slice zoa zolen zocap, .slice zia zn zcap, .int .i64 zlife, .int .i64 zwant]) := Lib.hid (by rw [hW9]; exact Box.putO HZB.out (by omega) ⟨uid, ⟨uoa, uolen, uocap, uol⟩, uia, un, ucap, ums, ulife, uwant⟩)
  have HyB2 : Hid (Box W9 Y 39 #[.int .i64 yid, .slice yoa yolen yocap, .slice yia yn ycap, .int .i64 ylife, .int .i64 ywant]) := Lib.hid (by rw [hW9]; exact Box.putO HyB.out (by omega) ⟨uid, ⟨uoa, uolen, uocap, uol⟩, uia, un, ucap, ums, ulife, uwant⟩)
  rw [← hW9]
  clear hW9 HxB HuO HK HKZ HB HZB HyB
  clear b0 b1 b2 b3 b4 bl bf
  clear x0 x1 x2 x3 x4 xl xf
  have HxB := HxB2
  clear HxB2
  have HuO := HuO2
  clear HuO2
  have HK := HK2
  clear HK2
  have HKZ := HKZ2
  clear HKZ2
  have HB := HB2
  clear HB2
  have HZB := HZB2
  clear HZB2
  have HyB := HyB2
  clear HyB2
  have b0 := HB.out.cell 0 _ rfl
  have b1 := HB.out.cell 1 _ rfl
  have b2 := HB.out.cell 2 _ rfl
  have b3 := HB.out.cell 3 _ rfl
  have b4 := HB.out.cell 4 _ rfl
  have bl := HB.out.lt
  have bf := HB.out.frozen
  have y0 := HyB.out.cell 0 _ rfl
  have y1 := HyB.out.cell 1 _ rfl
  have y2 := HyB.out.cell 2 _ rfl
  have y3 := HyB.out.cell 3 _ rfl
  have y4 := HyB.out.cell 4 _ rfl
  have yl := HyB.out.lt
  have yf := HyB.out.frozen
  go_wp2_with fail
  (with_reducible refine (HRRO.out _ (by exact HC.out.keeps HK.out)).mono ?_)
  rintro e w10 ⟨⟨vid, ⟨voa, volen, vocap, vol⟩, via, vn, vcap, vms, vlife, vwant⟩, he, hp, ho, hk1⟩
  have he2 : e = .returned (.tuple #[.agg #[.int .i64 vid, .slice voa volen vocap, .slice via vn vcap, .int .i64 vlife, .int .i64 vwant], .int .i64 E3]) := he
  clear he
  subst he2
  have HvP := Lib.hid hp
  have hYw : Y < W9.heap.size := HyB.out.lt
  have HvO : Hid (RCni.Own ⟨vid, ⟨voa, volen, vocap, vol⟩, via, vn, vcap, vms, vlife, vwant⟩ w10 (Y + 1)) := Lib.hid (ho.mono (by omega))
  replace HK := Lib.hid (HK.out.trans hk1)
  replace HKZ := Lib.hid (HKZ.out.trans hk1)
  replace HB := Lib.hid (HB.out.keeps hk1)
  replace HZB := Lib.hid (HZB.out.keeps hk1)
  replace HxB := Lib.hid (HxB.out.keeps hk1)
  replace HyB := Lib.hid (HyB.out.keeps hk1)
  replace HuO := Lib.hid (HuO.out.keeps hk1)
  clear hk1 hp ho HRRO
  clear b0 b1 b2 b3 b4 bl bf
  clear y0 y1 y2 y3 y4 yl yf
  have b0 := HB.out.cell 0 _ rfl
  have b1 := HB.out.cell 1 _ rfl
  have b2 := HB.out.cell 2 _ rfl
  have b3 := HB.out.cell 3 _ rfl
  have b4 := HB.out.cell 4 _ rfl
  have bl := HB.out.lt
  have bf := HB.out.frozen
  have y0 := HyB.out.cell 0 _ rfl
  have y1 := HyB.out.cell 1 _ rfl
  have y2 := HyB.out.cell 2 _ rfl
  have y3 := HyB.out.cell 3 _ rfl
  have y4 := HyB.out.cell 4 _ rfl
  have yl := HyB.out.lt
  have yf := HyB.out.frozen
  go_upto_region 14 with fail
  obtain ⟨W10, hW10⟩ : ∃ W, W = (((((w10.setCell ⟨Y, 0, none⟩ (.int .i64 vid)).setCell ⟨Y, 1, none⟩ (.slice voa volen vocap)).setCell ⟨Y, 2, none⟩ (.slice via vn vcap)).setCell ⟨Y, 3, none⟩ (.int .i64 vlife)).setCell ⟨Y, 4, none⟩ (.int .i64 vwant)) := ⟨_, rfl⟩
  have HyB2 : Hid (Box W10 Y 39 #[.int .i64 vid, .slice voa volen vocap, .slice via vn vcap, .int .i64 vlife, .int .i64 vwant]) := Lib.hid (by rw [hW10]; exact Box.putC (x := ⟨yid, ⟨yoa, yolen, yocap, yol⟩, yia, yn, ycap, yms, ylife, ywant⟩) HyB.out ⟨vid, ⟨voa, volen, vocap, vol⟩, via, vn, vcap, vms, vlife, vwant⟩)
  have HuO2 : Hid (RCni.Own ⟨uid, ⟨uoa, uolen, uocap, uol⟩, uia, un, ucap, ums, ulife, uwant⟩ W10 (Y + 1)) := Lib.hid (by rw [hW10]; exact HuO.out.putC (C := Y) (by omega) ⟨vid, ⟨voa, volen, vocap, vol⟩, via, vn, vcap, vms, vlife, vwant⟩)
  have HvO2 : Hid (RCni.Own ⟨vid, ⟨voa, volen, vocap, vol⟩, via, vn, vcap, vms, vlife, vwant⟩ W10 (Y + 1)) := Lib.hid (by rw [hW10]; exact HvO.out.putC (C := Y) (by omega) ⟨vid, ⟨voa, volen, vocap, vol⟩, via, vn, vcap, vms, vlife, vwant⟩)
  have HK2 : Hid (Keeps w W10) := Lib.hid (by rw [hW10]; exact HK.out.putC (C := Y) (by omega) ⟨vid, ⟨voa, volen, vocap, vol⟩, via, vn, vcap, vms, vlife, vwant⟩)
  have HKZ2 : Hid (Keeps w3 W10) := Lib.hid (by rw [hW10]; exact HKZ.out.putC (C := Y) (by omega) ⟨vid, ⟨voa, volen, vocap, vol⟩, via, vn, vcap, vms, vlife, vwant⟩)
  have HB2 : Hid (Box W10 w.heap.size 39 #[.int .i64 id, .slice oa olen ocap, .slice ia n cap, .int .i64 life, .int .i64 want]) := Lib.hid (by rw [hW10]; exact Box.putO HB.out (by omega) ⟨vid, ⟨voa, volen, vocap, vol⟩, via, vn, vcap, vms, vlife, vwant⟩)
  have HZB2 : Hid (Box W10 w3.heap.size 39 #[.int .i64 zid, .slice zoa zolen zocap, .slice zia zn zcap, .int .i64 zlife, .int .i64 zwant]) := Lib.hid (by rw [hW10]; exact Box.putO HZB.out (by omega) ⟨vid, ⟨voa, volen, vocap, vol⟩, via, vn, vcap, vms, vlife, vwant⟩)
  have HxB2 : Hid (Box W10 X 39 #[.int .i64 uid, .slice uoa uolen uocap, .slice uia un ucap, .int .i64 ulife, .int .i64 uwant]) := Lib.hid (by rw [hW10]; exact Box.putO HxB.out (by omega) ⟨vid, ⟨voa, volen, vocap, vol⟩, via, vn, vcap, vms, vlife, vwant⟩)
  rw [← hW10]
  clear hW10 HxB HuO HvO HK HKZ HB HZB HyB
  clear b0 b1 b2 b3 b4 bl bf
  clear y0 y1 y2 y3 y4 yl yf
  have HxB := HxB2
  clear HxB2
  have HuO := HuO2
  clear HuO2
  have HvO := HvO2
  clear HvO2
  have HK := HK2
  clear HK2
  have HKZ := HKZ2
  clear HKZ2
  have HB := HB2
  clear HB2
  have HZB := HZB2
  clear HZB2
  have HyB := HyB2
  clear HyB2
  have HuI := Lib.hid HuO.out.isIn
  have HvI := Lib.hid HvO.out.isIn
  clear HuO HvO
  have b0 := HB.out.cell 0 _ rfl
  have b1 := HB.out.cell 1 _ rfl
  have b2 := HB.out.cell 2 _ rfl
  have b3 := HB.out.cell 3 _ rfl
  have b4 := HB.out.cell 4 _ rfl
  have bl := HB.out.lt
  have bf := HB.out.frozen
  go_wp2_with fail
  (with_reducible refine (HFR.out _ (by exact HC.out.keeps HK.out)).mono ?_)
  rintro e w11 ⟨lv, rfl, hlv, hk1⟩
  have HLV := Lib.hid hlv
  replace HK := Lib.hid (HK.out.trans hk1)
  replace HKZ := Lib.hid (HKZ.out.trans hk1)
  replace HB := Lib.hid (HB.out.keeps hk1)
  replace HZB := Lib.hid (HZB.out.keeps hk1)
  replace HxB := Lib.hid (HxB.out.keeps hk1)
  replace HyB := Lib.hid (HyB.out.keeps hk1)
  replace HuI := Lib.hid (HuI.out.keeps hk1)
  replace HvI := Lib.hid (HvI.out.keeps hk1)
  clear hk1 hlv HFR
  clear b0 b1 b2 b3 b4 bl bf
  have b0 := HB.out.cell 0 _ rfl
  have b1 := HB.out.cell 1 _ rfl
  have b2 := HB.out.cell 2 _ rfl
  have b3 := HB.out.cell 3 _ rfl
  have b4 := HB.out.cell 4 _ rfl
  have bl := HB.out.lt
  have bf := HB.out.frozen
  go_upto_region 15 with fail
  go_cut [21] (fun v wx => v = .bool A ∧ Hid (Keeps w11 wx))
  case first =>
    go_wp2_with fail
    (with_reducible refine (HCH.out _ (by exact HC.out.keeps HK.out)).mono ?_)
    rintro e w12 ⟨rfl, hk1⟩
    replace HB := Lib.hid (HB.out.keeps hk1)
    have HK12 := Lib.hid hk1
    clear hk1 b0 b1 b2 b3 b4 bl bf
    have b0 := HB.out.cell 0 _ rfl
    have b1 := HB.out.cell 1 _ rfl
    have b2 := HB.out.cell 2 _ rfl
    have b3 := HB.out.cell 3 _ rfl
    have b4 := HB.out.cell 4 _ rfl
    have bl := HB.out.lt
    have bf := HB.out.frozen
    cases O
    · simp only [cond_false]
      have HAX : Hid (A = false) := Lib.hid (by rw [HAE.out]; rfl)
      go_wp2_with fail
      go_meet
      exact ⟨by rw [HAX.out], HK12⟩
    simp only [cond_true]
    have HAX : Hid (A = decide (0 < life)) := Lib.hid (by rw [HAE.out]; rfl)
    by_cases t : 0 < life
    · have d3 : decide (0 < life) = true := decide_eq_true t
      rw [d3] at HAX
      go_wp2_with fail
      go_meet
      exact ⟨by rw [HAX.out], HK12⟩
    · have d3 : decide (0 < life) = false := decide_eq_false t
      rw [d3] at HAX
      go_wp2_with fail
      go_meet
      exact ⟨by rw [HAX.out], HK12⟩
  case rest =>
    obtain ⟨rfl, hk1⟩ := hcut
    replace hk1 := hk1.out
    replace HK := Lib.hid (HK.out.trans hk1)
    replace HKZ := Lib.hid (HKZ.out.trans hk1)
    replace HB := Lib.hid (HB.out.keeps hk1)
    replace HZB := Lib.hid (HZB.out.keeps hk1)
    replace HxB := Lib.hid (HxB.out.keeps hk1)
    replace HyB := Lib.hid (HyB.out.keeps hk1)
    replace HuI := Lib.hid (HuI.out.keeps hk1)
    replace HvI := Lib.hid (HvI.out.keeps hk1)
    replace HLV := Lib.hid (HLV.out.keeps hk1)
    clear b0 b1 b2 b3 b4 bl bf
    clear hk1 HAE HCH
    obtain ⟨W, hW⟩ : ∃ W, W = wc := ⟨_, rfl⟩
    rw [← hW] at HK HKZ HB HZB HxB HyB HuI HvI HLV ⊢
    clear hW
    have HCI := Lib.hid (HC.out.keeps HK.out)
    have HZI2 := Lib.hid (HZI.out.keeps HKZ.out)
    have HSM : Hid (sameC (RCni.p ⟨uid, ⟨uoa, uolen, uocap, uol⟩, uia, un, ucap, ums, ulife, uwant⟩) (RCni.p ⟨vid, ⟨voa, volen, vocap, vol⟩, via, vn, vcap, vms, vlife, vwant⟩) = true) := Lib.hid (by rw [HuP.out, HvP.out]; exact sameC_self _)
    have fhb0 : W.cell? ⟨w.heap.size, 0, none⟩ = some (Value.int .i64 id) := HB.out.cell 0 _ rfl
    have fhb1 : W.cell? ⟨w.heap.size, 1, none⟩ = some (Value.slice oa olen ocap) := HB.out.cell 1 _ rfl
    have fhb2 : W.cell? ⟨w.heap.size, 2, none⟩ = some (Value.slice ia n cap) := HB.out.cell 2 _ rfl
    have fhb3 : W.cell? ⟨w.heap.size, 3, none⟩ = some (Value.int .i64 life) := HB.out.cell 3 _ rfl
    have fhb4 : W.cell? ⟨w.heap.size, 4, none⟩ = some (Value.int .i64 want) := HB.out.cell 4 _ rfl
    have fhzb0 : W.cell? ⟨w3.heap.size, 0, none⟩ = some (Value.int .i64 zid) := HZB.out.cell 0 _ rfl
    have fhzb1 : W.cell? ⟨w3.heap.size, 1, none⟩ = some (Value.slice zoa zolen zocap) := HZB.out.cell 1 _ rfl
    have fhzb2 : W.cell? ⟨w3.heap.size, 2, none⟩ = some (Value.slice zia zn zcap) := HZB.out.cell 2 _ rfl
    have fhzb3 : W.cell? ⟨w3.heap.size, 3, none⟩ = some (Value.int .i64 zlife) := HZB.out.cell 3 _ rfl
    have fhzb4 : W.cell? ⟨w3.heap.size, 4, none⟩ = some (Value.int .i64 zwant) := HZB.out.cell 4 _ rfl
    have fhxb0 : W.cell? ⟨X, 0, none⟩ = some (Value.int .i64 uid) := HxB.out.cell 0 _ rfl
    have fhxb1 : W.cell? ⟨X, 1, none⟩ = some (Value.slice uoa uolen uocap) := HxB.out.cell 1 _ rfl
    have fhxb2 : W.cell? ⟨X, 2, none⟩ = some (Value.slice uia un ucap) := HxB.out.cell 2 _ rfl
    have fhxb3 : W.cell? ⟨X, 3, none⟩ = some (Value.int .i64 ulife) := HxB.out.cell 3 _ rfl
    have fhxb4 : W.cell? ⟨X, 4, none⟩ = some (Value.int .i64 uwant) := HxB.out.cell 4 _ rfl
    have fhyb0 : W.cell? ⟨Y, 0, none⟩ = some (Value.int .i64 vid) := HyB.out.cell 0 _ rfl
    have fhyb1 : W.cell? ⟨Y, 1, none⟩ = some (Value.slice voa volen vocap) := HyB.out.cell 1 _ rfl
    have fhyb2 : W.cell? ⟨Y, 2, none⟩ = some (Value.slice via vn vcap) := HyB.out.cell 2 _ rfl
    have fhyb3 : W.cell? ⟨Y, 3, none⟩ = some (Value.int .i64 vlife) := HyB.out.cell 3 _ rfl
    have fhyb4 : W.cell? ⟨Y, 4, none⟩ = some (Value.int .i64 vwant) := HyB.out.cell 4 _ rfl
    have HKN := Lib.hid (Keeps.refl W)
    have hmin : min (FL.length : Int) (most : Int) = ((min FL.length most : Nat) : Int) := by omega
    have HLI : Hid (Ints W lv (FL.map fun j : Nat => (j : Int))) := Lib.hid (Own.ints (by rw [List.map_map]; exact HLV.out))
    obtain ⟨la, lc, hlv, hl1, hl2, hl3⟩ := HLI.out.shape
    rw [List.length_map] at hlv hl1
    subst hlv
    obtain ⟨q, hq⟩ : ∃ q, q = min FL.length most := ⟨_, rfl⟩
    have hqM : q ≤ FL.length := by omega
    have HLC : Hid (Ints W (.slice la q lc) ((FL.take most).map fun j : Nat => (j : Int))) := Lib.hid (by
      have h := HLI.out.cut q (by rw [List.length_map]; exact hqM)
      rw [← List.map_take] at h
      rwa [show FL.take q = FL.take most by rw [hq]; exact (List.take_eq_take_min.trans (by rw [Nat.min_comm])).symm] at h)
    have hmin2 : min (FL.length : Int) (most : Int) = (q : Int) := by omega
    have HW : Hid (IntKind.i64.wrap (most : Int) = (most : Int)) := Lib.hid (by simp [IntKind.wrap, IntKind.bits, IntKind.signed]; omega)
    have hmin3 : min (FL.length : Int) (IntKind.i64.wrap (most : Int)) = (q : Int) := by rw [HW.out]; exact hmin2
    have hmin4 : (if IntKind.i64.wrap (most : Int) < (FL.length : Int) then IntKind.i64.wrap (most : Int) else (FL.length : Int)) = (q : Int) := by rw [HW.out]; split <;> omega
    have hmin5 : (if (most : Int) < (FL.length : Int) then (most : Int) else (FL.length : Int)) = (q : Int) := by split <;> omega
    have hmin6 : (if most < FL.length then (most : Int) else (FL.length : Int)) = (q : Int) := by split <;> omega
    have hq0 : (0 : Int) ≤ (q : Int) := by omega
    have hq1 : (q : Int) ≤ (FL.length : Int) := by omega
    have hq2 : (q : Int) ≤ (lc : Int) := by omega
    have hq3 : q ≤ lc := by omega
    have hww : IntKind.i64.wrap (most : Int) = (most : Int) := HW.out
    have hF1 : FL.length ≤ 99 := by omega
    clear HLV hl3 hq hmin hF99 d1 d2
    go_wp2_with fail
    go_region_held3 (fun w' => w'.cell? ⟨w.heap.size, 0, none⟩ = some (Value.int .i64 id) ∧ w'.cell? ⟨w.heap.size, 1, none⟩ = some (Value.slice oa olen ocap) ∧ w'.cell? ⟨w.heap.size, 2, none⟩ = some (Value.slice ia n cap) ∧ w'.cell? ⟨w.heap.size, 3, none⟩ = some (Value.int .i64 life) ∧ w'.cell? ⟨w.heap.size, 4, none⟩ = some (Value.int .i64 want) ∧ w'.cell? ⟨w3.heap.size, 0, none⟩ = some (Value.int .i64 zid) ∧ w'.cell? ⟨w3.heap.size, 1, none⟩ = some (Value.slice zoa zolen zocap) ∧ w'.cell? ⟨w3.heap.size, 2, none⟩ = some (Value.slice zia zn zcap) ∧ w'.cell? ⟨w3.heap.size, 3, none⟩ = some (Value.int .i64 zlife) ∧ w'.cell? ⟨w3.heap.size, 4, none⟩ = some (Value.int .i64 zwant) ∧ w'.cell? ⟨X, 0, none⟩ = some (Value.int .i64 uid) ∧ w'.cell? ⟨X, 1, none⟩ = some (Value.slice uoa uolen uocap) ∧ w'.cell? ⟨X, 2, none⟩ = some (Value.slice uia un ucap) ∧ w'.cell? ⟨X, 3, none⟩ = some (Value.int .i64 ulife) ∧ w'.cell? ⟨X, 4, none⟩ = some (Value.int .i64 uwant) ∧ w'.cell? ⟨Y, 0, none⟩ = some (Value.int .i64 vid) ∧ w'.cell? ⟨Y, 1, none⟩ = some (Value.slice voa volen vocap) ∧ w'.cell? ⟨Y, 2, none⟩ = some (Value.slice via vn vcap) ∧ w'.cell? ⟨Y, 3, none⟩ = some (Value.int .i64 vlife) ∧ w'.cell? ⟨Y, 4, none⟩ = some (Value.int .i64 vwant))
      ((refine ⟨Keeps.later (a := W) ?_ fhb0, Keeps.later (a := W) ?_ fhb1, Keeps.later (a := W) ?_ fhb2, Keeps.later (a := W) ?_ fhb3, Keeps.later (a := W) ?_ fhb4, Keeps.later (a := W) ?_ fhzb0, Keeps.later (a := W) ?_ fhzb1, Keeps.later (a := W) ?_ fhzb2, Keeps.later (a := W) ?_ fhzb3, Keeps.later (a := W) ?_ fhzb4, Keeps.later (a := W) ?_ fhxb0, Keeps.later (a := W) ?_ fhxb1, Keeps.later (a := W) ?_ fhxb2, Keeps.later (a := W) ?_ fhxb3, Keeps.later (a := W) ?_ fhxb4, Keeps.later (a := W) ?_ fhyb0, Keeps.later (a := W) ?_ fhyb1, Keeps.later (a := W) ?_ fhyb2, Keeps.later (a := W) ?_ fhyb3, Keeps.later (a := W) ?_ fhyb4⟩ <;> repeat (first | with_reducible exact HKN.out | with_reducible refine Keeps.alloc ?_ _ | with_reducible refine Keeps.drew ?_)))
      (first | (go_at_call 30; with_reducible refine (rsame12_any ⟨uid, ⟨uoa, uolen, uocap, uol⟩, uia, un, ucap, ums, ulife, uwant⟩ ⟨vid, ⟨voa, volen, vocap, vol⟩, via, vn, vcap, vms, vlife, vwant⟩ _ (HuI.out.keeps ?_) (HvI.out.keeps ?_)).mono ?_; (repeat (first | with_reducible exact HKN.out | with_reducible refine Keeps.alloc ?_ _ | with_reducible refine Keeps.drew ?_)); (repeat (first | with_reducible exact HKN.out | with_reducible refine Keeps.alloc ?_ _ | with_reducible refine Keeps.drew ?_)); rw [HSM.out]; rintro e u ⟨rfl, hk⟩; have HKM := Lib.hid (Keeps.trans (show Keeps W _ by repeat (first | with_reducible exact HKN.out | with_reducible refine Keeps.alloc ?_ _ | with_reducible refine Keeps.drew ?_)) hk); clear hk HKN; have HKN := HKM; clear HKM) | (go_at_call 30; with_reducible refine (rsame12_any ⟨id, ⟨oa, olen, ocap, ol⟩, ia, n, cap, ms, life, want⟩ ⟨zid, ⟨zoa, zolen, zocap, zol⟩, zia, zn, zcap, zms, zlife, zwant⟩ _ (HCI.out.keeps ?_) (HZI2.out.keeps ?_)).mono ?_; (repeat (first | with_reducible exact HKN.out | with_reducible refine Keeps.alloc ?_ _ | with_reducible refine Keeps.drew ?_)); (repeat (first | with_reducible exact HKN.out | with_reducible refine Keeps.alloc ?_ _ | with_reducible refine Keeps.drew ?_)); rw [← HPC.out, HZP.out]; rintro e u ⟨rfl, hk⟩; have HKM := Lib.hid (Keeps.trans (show Keeps W _ by repeat (first | with_reducible exact HKN.out | with_reducible refine Keeps.alloc ?_ _ | with_reducible refine Keeps.drew ?_)) hk); clear hk HKN; have HKN := HKM; clear HKM) | (go_at_call 36; with_reducible refine (freshf_any ⟨id, ⟨oa, olen, ocap, ol⟩, ia, n, cap, ms, life, want⟩ age _).mono ?_; rintro e u ⟨rfl, rfl⟩) | (go_at_call 35; with_reducible refine (HTO.out _ (HCI.out.keeps ?_) 99 99 rfl (by omega)).mono ?_; (repeat (first | with_reducible exact HKN.out | with_reducible refine Keeps.alloc ?_ _ | with_reducible refine Keeps.drew ?_)); rintro e u ⟨v1, rfl, hv1, hk⟩; rw [List.take_of_length_le hF1] at hv1; have HV1 := Lib.hid hv1; clear hv1; have HKM := Lib.hid (Keeps.trans (show Keeps W _ by repeat (first | with_reducible exact HKN.out | with_reducible refine Keeps.alloc ?_ _ | with_reducible refine Keeps.drew ?_)) hk); clear hk HKN; have HKN := HKM; clear HKM) | (go_at_call 35; with_reducible refine (HTO.out _ (HCI.out.keeps ?_) most _ HW.out (by omega)).mono ?_; (repeat (first | with_reducible exact HKN.out | with_reducible refine Keeps.alloc ?_ _ | with_reducible refine Keeps.drew ?_)); rintro e u ⟨v1, rfl, hv1, hk⟩; skip; have HV1 := Lib.hid hv1; clear hv1; have HKM := Lib.hid (Keeps.trans (show Keeps W _ by repeat (first | with_reducible exact HKN.out | with_reducible refine Keeps.alloc ?_ _ | with_reducible refine Keeps.drew ?_)) hk); clear hk HKN; have HKN := HKM; clear HKM) | (go_at_call 35; with_reducible refine (HTO.out _ (HCI.out.keeps ?_) most _ rfl (by omega)).mono ?_; (repeat (first | with_reducible exact HKN.out | with_reducible refine Keeps.alloc ?_ _ | with_reducible refine Keeps.drew ?_)); rintro e u ⟨v1, rfl, hv1, hk⟩; skip; have HV1 := Lib.hid hv1; clear hv1; have HKM := Lib.hid (Keeps.trans (show Keeps W _ by repeat (first | with_reducible exact HKN.out | with_reducible refine Keeps.alloc ?_ _ | with_reducible refine Keeps.drew ?_)) hk); clear hk HKN; have HKN := HKM; clear HKM) | (go_at_call 34; with_reducible refine (eqInts_yes v1 _ (FL.map fun j : Nat => (j : Int)) _ HV1.out (HLI.out.keeps ?_)).mono ?_; (repeat (first | with_reducible exact HKN.out | with_reducible refine Keeps.alloc ?_ _ | with_reducible refine Keeps.drew ?_)); rintro e u ⟨rfl, hk⟩; have HKM := Lib.hid (Keeps.trans (show Keeps W _ by repeat (first | with_reducible exact HKN.out | with_reducible refine Keeps.alloc ?_ _ | with_reducible refine Keeps.drew ?_)) hk); clear hk HKN HV1; have HKN := HKM; clear HKM) | (go_at_call 34; with_reducible refine (eqInts_yes v1 _ ((FL.take most).map fun j : Nat => (j : Int)) _ HV1.out (HLC.out.keeps ?_)).mono ?_; (repeat (first | with_reducible exact HKN.out | with_reducible refine Keeps.alloc ?_ _ | with_reducible refine Keeps.drew ?_)); rintro e u ⟨rfl, hk⟩; have HKM := Lib.hid (Keeps.trans (show Keeps W _ by repeat (first | with_reducible exact HKN.out | with_reducible refine Keeps.alloc ?_ _ | with_reducible refine Keeps.drew ?_)) hk); clear hk HKN HV1; have HKN := HKM; clear HKM) | (go_at_call 20; with_reducible refine (HAL.out _ (HCI.out.keeps ?_)).mono ?_; (repeat (first | with_reducible exact HKN.out | with_reducible refine Keeps.alloc ?_ _ | with_reducible refine Keeps.drew ?_)); rintro e u ⟨rfl, hk⟩; have HKM := Lib.hid (Keeps.trans (show Keeps W _ by repeat (first | with_reducible exact HKN.out | with_reducible refine Keeps.alloc ?_ _ | with_reducible refine Keeps.drew ?_)) hk); clear hk HKN; have HKN := HKM; clear HKM))
    all_goals (first | (go_ret; exact ⟨rfl, HK.out.trans HKN.out⟩) | (go_wp2_with fail; go_ret; exact ⟨rfl, HK.out.trans HKN.out⟩))
end Go.Proofs.Ytcophhdlcjemeaa
