/- The walk of CstateSteps. -/
import Derived.Test.YtdjbalaicfienaaC7
import Derived.Test.YtdjbalaicfienaaC10
import Derived.Test.YtdjbalaicfienaaC13
import Derived.Test.YtdjbalaicfienaaC17
import Derived.Test.YtdjbalaicfienaaC18
import Derived.Test.YtdjbalaicfienaaC19
import Derived.Test.YtdjbalaicfienaaC20
import Derived.Test.YtdjbalaicfienaaLater
namespace Go.Proofs.Ytdjbalaicfienaa
open Go.RowKit
set_option linter.unusedVariables false
set_option linter.unusedSimpArgs false
attribute [local go_sem ↓ high] eqCS

theorem Ints.cut {w : World} {a : Option Addr} {n cap : Nat} {zs : List Int} (h : Ints w (.slice a n cap) zs) (m : Nat) (hm : m ≤ zs.length) : Ints w (.slice a m cap) (zs.take m) := by
  obtain ⟨a', cap', he, h1, h2, h3⟩ := h.shape
  simp only [Value.slice.injEq] at he
  obtain ⟨rfl, rfl, rfl⟩ := he
  have hl : (zs.take m).length = m := by rw [List.length_take]; omega
  refine ⟨a, cap, by rw [hl], by omega, h2, by rw [List.length_map, hl], fun i hi => ?_⟩
  rw [hl] at hi
  obtain ⟨b, off, hab, hc⟩ := h3.2 i (by omega)
  refine ⟨b, off, hab, hc.trans ?_⟩
  simp [List.getElem?_take, hi]
/-- Members' value, told -/
theorem mems_told (c : CS) (w : World) (most : Nat) (av : Int) (hav : av = most) (hm : most ≤ 100000) :
    Calls Try.prog 35 #[.func (.func 71) #[] #[.pointer (some ⟨w.heap.size, 0, none⟩)], .int .i64 av] (w.alloc (.cells #[.int .i64 c.t, .int .i64 c.p, .int .i64 c.m, .int .i64 c.x, .int .i64 c.b] 23)) fun e w' =>
      ∃ v, e = .returned v ∧ Ints w' v (((memsTo c 8).take most).map fun j : Nat => (j : Int)) ∧ Keeps (w.alloc (.cells #[.int .i64 c.t, .int .i64 c.p, .int .i64 c.m, .int .i64 c.x, .int .i64 c.b] 23)) w' := by
  subst hav
  have hB := Box.new w 23 #[.int .i64 c.t, .int .i64 c.p, .int .i64 c.m, .int .i64 c.x, .int .i64 c.b]
  have hlt := hB.lt
  refine (told_any (memsTo c 8) most 71 _ (KeepsOn _ w.heap.size) _ hm (enters_of Try.func71 (by kernel_rfl) rfl)
    (fun a b h => Below.on h (Nat.le_refl _) hlt (Below.size h)) (mems_stops' 3 (by omega) w.heap.size c _ _ (Keeps.refl _) hB)).mono ?_
  rintro e w' ⟨v, rfl, ho, hk⟩
  exact ⟨v, rfl, Own.ints (by rw [List.map_map]; exact ho), hk⟩

set_option maxHeartbeats 2000000 in
set_option maxRecDepth 100000 in
theorem cstateSteps_any (ca cb : CS) (n node : Int) (most : Nat) (w : World) (hin : ca.In) (hm : most < 256) :
    Calls Try.prog 6 #[ca.val, cb.val, .int .i64 n, .int .i64 node, .int .u8 most] w fun e w' => e = .returned (.bool true) ∧ Keeps w w' := by
  obtain ⟨ta, pa, ma, xa, ba⟩ := ca
  obtain ⟨tb, pb, mb, xb, bb⟩ := cb
  have HIN := Lib.hid hin
  clear hin
  show Calls Try.prog 6 #[.agg #[.int .i64 ta, .int .i64 pa, .int .i64 ma, .int .i64 xa, .int .i64 ba], .agg #[.int .i64 tb, .int .i64 pb, .int .i64 mb, .int .i64 xb, .int .i64 bb], .int .i64 n, .int .i64 node, .int .u8 most] w _
  have HK := Lib.hid (((Keeps.refl w).alloc (.cells #[.int .i64 ta, .int .i64 pa, .int .i64 ma, .int .i64 xa, .int .i64 ba] 23)).alloc (.cells #[.int .i64 tb, .int .i64 pb, .int .i64 mb, .int .i64 xb, .int .i64 bb] 23))
  have ha := ((Box.new w 23 #[.int .i64 ta, .int .i64 pa, .int .i64 ma, .int .i64 xa, .int .i64 ba]).next (.cells #[.int .i64 tb, .int .i64 pb, .int .i64 mb, .int .i64 xb, .int .i64 bb] 23))
  have HA := Lib.hid ha
  clear ha
  have hb := (Box.new (w.alloc (.cells #[.int .i64 ta, .int .i64 pa, .int .i64 ma, .int .i64 xa, .int .i64 ba] 23)) 23 #[.int .i64 tb, .int .i64 pb, .int .i64 mb, .int .i64 xb, .int .i64 bb])
  rw [World.size_alloc] at hb
  have HB := Lib.hid hb
  clear hb
  obtain ⟨r1, hr1⟩ : ∃ r, r = stepRes ⟨ta, pa, ma, xa, ba⟩ n := ⟨_, rfl⟩
  obtain ⟨r2, hr2⟩ : ∃ r, r = slotsRes ⟨ta, pa, ma, xa, ba⟩ ⟨tb, pb, mb, xb, bb⟩ n := ⟨_, rfl⟩
  have HR1 := Lib.hid hr1
  have HR2 := Lib.hid hr2
  clear hr1 hr2
  obtain ⟨⟨t1, p1, m1, x1, b1⟩, e1⟩ := r1
  obtain ⟨s2, e2⟩ := r2
  go_enter Try.func6, Try.ntmps6
  go_wp2_with fail
  with_reducible refine (cstep_any ⟨ta, pa, ma, xa, ba⟩ n _).mono ?_
  rw [← HR1.out]
  rintro e w1 ⟨rfl, hk1⟩
  have hkk := hk1
  replace HK := Lib.hid (HK.out.trans hkk)
  replace HA := Lib.hid (HA.out.keeps hkk)
  replace HB := Lib.hid (HB.out.keeps hkk)
  clear hkk hk1
  have ha0 := HA.out.cell 0 _ rfl
  have ha1 := HA.out.cell 1 _ rfl
  have ha2 := HA.out.cell 2 _ rfl
  have ha3 := HA.out.cell 3 _ rfl
  have ha4 := HA.out.cell 4 _ rfl
  have hal := HA.out.lt
  have hb0 := HB.out.cell 0 _ rfl
  have hb1 := HB.out.cell 1 _ rfl
  have hb2 := HB.out.cell 2 _ rfl
  have hb3 := HB.out.cell 3 _ rfl
  have hb4 := HB.out.cell 4 _ rfl
  have hbl := HB.out.lt
  go_wp2_with fail
  with_reducible refine (rcstep_any ⟨ta, pa, ma, xa, ba⟩ n _).mono ?_
  rw [← HR1.out]
  rintro e w2 ⟨rfl, hk2⟩
  clear ha0 ha1 ha2 ha3 ha4 hal hb0 hb1 hb2 hb3 hb4 hbl
  have hkk := ((Keeps.refl w1).alloc (.cells #[.int .i64 t1, .int .i64 p1, .int .i64 m1, .int .i64 x1, .int .i64 b1] 23)).trans hk2
  have HX := Lib.hid ((Box.new w1 23 #[.int .i64 t1, .int .i64 p1, .int .i64 m1, .int .i64 x1, .int .i64 b1]).keeps hk2)
  replace HK := Lib.hid (HK.out.trans hkk)
  replace HA := Lib.hid (HA.out.keeps hkk)
  replace HB := Lib.hid (HB.out.keeps hkk)
  clear hkk hk2
  have ha0 := HA.out.cell 0 _ rfl
  have ha1 := HA.out.cell 1 _ rfl
  have ha2 := HA.out.cell 2 _ rfl
  have ha3 := HA.out.cell 3 _ rfl
  have ha4 := HA.out.cell 4 _ rfl
  have hal := HA.out.lt
  have hb0 := HB.out.cell 0 _ rfl
  have hb1 := HB.out.cell 1 _ rfl
  have hb2 := HB.out.cell 2 _ rfl
  have hb3 := HB.out.cell 3 _ rfl
  have hb4 := HB.out.cell 4 _ rfl
  have hbl := HB.out.lt
  have hx0 := HX.out.cell 0 _ rfl
  have hx1 := HX.out.cell 1 _ rfl
  have hx2 := HX.out.cell 2 _ rfl
  have hx3 := HX.out.cell 3 _ rfl
  have hx4 := HX.out.cell 4 _ rfl
  have hxl := HX.out.lt
  go_wp2_with fail
  with_reducible refine (cslots_any ⟨ta, pa, ma, xa, ba⟩ ⟨tb, pb, mb, xb, bb⟩ n _).mono ?_
  rw [← HR2.out]
  rintro e w3 ⟨rfl, hk3⟩
  clear ha0 ha1 ha2 ha3 ha4 hal hb0 hb1 hb2 hb3 hb4 hbl hx0 hx1 hx2 hx3 hx4 hxl
  have hkk := ((Keeps.refl w2).alloc (.cells #[.int .i64 t1, .int .i64 p1, .int .i64 m1, .int .i64 x1, .int .i64 b1] 23)).trans hk3
  have HY := Lib.hid ((Box.new w2 23 #[.int .i64 t1, .int .i64 p1, .int .i64 m1, .int .i64 x1, .int .i64 b1]).keeps hk3)
  replace HK := Lib.hid (HK.out.trans hkk)
  replace HA := Lib.hid (HA.out.keeps hkk)
  replace HB := Lib.hid (HB.out.keeps hkk)
  replace HX := Lib.hid (HX.out.keeps hkk)
  clear hkk hk3
  have ha0 := HA.out.cell 0 _ rfl
  have ha1 := HA.out.cell 1 _ rfl
  have ha2 := HA.out.cell 2 _ rfl
  have ha3 := HA.out.cell 3 _ rfl
  have ha4 := HA.out.cell 4 _ rfl
  have hal := HA.out.lt
  have hb0 := HB.out.cell 0 _ rfl
  have hb1 := HB.out.cell 1 _ rfl
  have hb2 := HB.out.cell 2 _ rfl
  have hb3 := HB.out.cell 3 _ rfl
  have hb4 := HB.out.cell 4 _ rfl
  have hbl := HB.out.lt
  have hx0 := HX.out.cell 0 _ rfl
  have hx1 := HX.out.cell 1 _ rfl
  have hx2 := HX.out.cell 2 _ rfl
  have hx3 := HX.out.cell 3 _ rfl
  have hx4 := HX.out.cell 4 _ rfl
  have hxl := HX.out.lt
  have hy0 := HY.out.cell 0 _ rfl
  have hy1 := HY.out.cell 1 _ rfl
  have hy2 := HY.out.cell 2 _ rfl
  have hy3 := HY.out.cell 3 _ rfl
  have hy4 := HY.out.cell 4 _ rfl
  have hyl := HY.out.lt
  go_wp2_with fail
  with_reducible refine (rcslots_any ⟨ta, pa, ma, xa, ba⟩ ⟨tb, pb, mb, xb, bb⟩ n _).mono ?_
  rw [← HR2.out]
  rintro e w4 ⟨rfl, hk4⟩
  clear ha0 ha1 ha2 ha3 ha4 hal hb0 hb1 hb2 hb3 hb4 hbl hx0 hx1 hx2 hx3 hx4 hxl hy0 hy1 hy2 hy3 hy4 hyl
  have hkk := hk4
  replace HK := Lib.hid (HK.out.trans hkk)
  replace HA := Lib.hid (HA.out.keeps hkk)
  replace HB := Lib.hid (HB.out.keeps hkk)
  replace HX := Lib.hid (HX.out.keeps hkk)
  replace HY := Lib.hid (HY.out.keeps hkk)
  clear hkk hk4
  have ha0 := HA.out.cell 0 _ rfl
  have ha1 := HA.out.cell 1 _ rfl
  have ha2 := HA.out.cell 2 _ rfl
  have ha3 := HA.out.cell 3 _ rfl
  have ha4 := HA.out.cell 4 _ rfl
  have hal := HA.out.lt
  have hb0 := HB.out.cell 0 _ rfl
  have hb1 := HB.out.cell 1 _ rfl
  have hb2 := HB.out.cell 2 _ rfl
  have hb3 := HB.out.cell 3 _ rfl
  have hb4 := HB.out.cell 4 _ rfl
  have hbl := HB.out.lt
  have hx0 := HX.out.cell 0 _ rfl
  have hx1 := HX.out.cell 1 _ rfl
  have hx2 := HX.out.cell 2 _ rfl
  have hx3 := HX.out.cell 3 _ rfl
  have hx4 := HX.out.cell 4 _ rfl
  have hxl := HX.out.lt
  have hy0 := HY.out.cell 0 _ rfl
  have hy1 := HY.out.cell 1 _ rfl
  have hy2 := HY.out.cell 2 _ rfl
  have hy3 := HY.out.cell 3 _ rfl
  have hy4 := HY.out.cell 4 _ rfl
  have hyl := HY.out.lt
  go_wp2_with fail
  with_reducible refine (rmembers_any ⟨ta, pa, ma, xa, ba⟩ _).mono ?_
  rintro e w5 ⟨lv, rfl, hlv, hk5⟩
  have HLV := Lib.hid hlv
  clear hlv
  clear ha0 ha1 ha2 ha3 ha4 hal hb0 hb1 hb2 hb3 hb4 hbl hx0 hx1 hx2 hx3 hx4 hxl hy0 hy1 hy2 hy3 hy4 hyl
  have hkk := hk5
  replace HK := Lib.hid (HK.out.trans hkk)
  replace HA := Lib.hid (HA.out.keeps hkk)
  replace HB := Lib.hid (HB.out.keeps hkk)
  replace HX := Lib.hid (HX.out.keeps hkk)
  replace HY := Lib.hid (HY.out.keeps hkk)
  clear hkk hk5
  have ha0 := HA.out.cell 0 _ rfl
  have ha1 := HA.out.cell 1 _ rfl
  have ha2 := HA.out.cell 2 _ rfl
  have ha3 := HA.out.cell 3 _ rfl
  have ha4 := HA.out.cell 4 _ rfl
  have hal := HA.out.lt
  have hb0 := HB.out.cell 0 _ rfl
  have hb1 := HB.out.cell 1 _ rfl
  have hb2 := HB.out.cell 2 _ rfl
  have hb3 := HB.out.cell 3 _ rfl
  have hb4 := HB.out.cell 4 _ rfl
  have hbl := HB.out.lt
  have hx0 := HX.out.cell 0 _ rfl
  have hx1 := HX.out.cell 1 _ rfl
  have hx2 := HX.out.cell 2 _ rfl
  have hx3 := HX.out.cell 3 _ rfl
  have hx4 := HX.out.cell 4 _ rfl
  have hxl := HX.out.lt
  have hy0 := HY.out.cell 0 _ rfl
  have hy1 := HY.out.cell 1 _ rfl
  have hy2 := HY.out.cell 2 _ rfl
  have hy3 := HY.out.cell 3 _ rfl
  have hy4 := HY.out.cell 4 _ rfl
  have hyl := HY.out.lt
  clear ha0 ha1 ha2 ha3 ha4 hal hb0 hb1 hb2 hb3 hb4 hbl hx0 hx1 hx2 hx3 hx4 hxl hy0 hy1 hy2 hy3 hy4 hyl
  have ha0 : w5.cell? ⟨w.heap.size, 0, none⟩ = some (.int .i64 ta) := HA.out.cell 0 _ rfl
  have ha1 : w5.cell? ⟨w.heap.size, 1, none⟩ = some (.int .i64 pa) := HA.out.cell 1 _ rfl
  have ha2 : w5.cell? ⟨w.heap.size, 2, none⟩ = some (.int .i64 ma) := HA.out.cell 2 _ rfl
  have ha3 : w5.cell? ⟨w.heap.size, 3, none⟩ = some (.int .i64 xa) := HA.out.cell 3 _ rfl
  have ha4 : w5.cell? ⟨w.heap.size, 4, none⟩ = some (.int .i64 ba) := HA.out.cell 4 _ rfl
  have hx0 : w5.cell? ⟨w1.heap.size, 0, none⟩ = some (.int .i64 t1) := HX.out.cell 0 _ rfl
  have hx1 : w5.cell? ⟨w1.heap.size, 1, none⟩ = some (.int .i64 p1) := HX.out.cell 1 _ rfl
  have hx2 : w5.cell? ⟨w1.heap.size, 2, none⟩ = some (.int .i64 m1) := HX.out.cell 2 _ rfl
  have hx3 : w5.cell? ⟨w1.heap.size, 3, none⟩ = some (.int .i64 x1) := HX.out.cell 3 _ rfl
  have hx4 : w5.cell? ⟨w1.heap.size, 4, none⟩ = some (.int .i64 b1) := HX.out.cell 4 _ rfl
  have hy0 : w5.cell? ⟨w2.heap.size, 0, none⟩ = some (.int .i64 t1) := HY.out.cell 0 _ rfl
  have hy1 : w5.cell? ⟨w2.heap.size, 1, none⟩ = some (.int .i64 p1) := HY.out.cell 1 _ rfl
  have hy2 : w5.cell? ⟨w2.heap.size, 2, none⟩ = some (.int .i64 m1) := HY.out.cell 2 _ rfl
  have hy3 : w5.cell? ⟨w2.heap.size, 3, none⟩ = some (.int .i64 x1) := HY.out.cell 3 _ rfl
  have hy4 : w5.cell? ⟨w2.heap.size, 4, none⟩ = some (.int .i64 b1) := HY.out.cell 4 _ rfl
  have HKN := Lib.hid (Keeps.refl w5)
  obtain ⟨M, hM⟩ : ∃ M, M = memsTo ⟨ta, pa, ma, xa, ba⟩ 8 := ⟨_, rfl⟩
  rw [← hM] at HLV
  have HM := Lib.hid hM
  have HM8 : M.length ≤ 8 := by rw [hM]; exact memsTo_le _ 8
  have hmin : min (M.length : Int) (most : Int) = ((min M.length most : Nat) : Int) := by omega
  have HLI : Hid (Ints w5 lv (M.map fun j : Nat => (j : Int))) := Lib.hid (Own.ints (by rw [List.map_map]; exact HLV.out))
  obtain ⟨la, lc, hlv, hl1, hl2, hl3⟩ := HLI.out.shape
  rw [List.length_map] at hlv hl1
  subst hlv
  obtain ⟨q, hq⟩ : ∃ q, q = min M.length most := ⟨_, rfl⟩
  have hqM : q ≤ M.length := by omega
  have HLC : Hid (Ints w5 (.slice la q lc) ((M.take most).map fun j : Nat => (j : Int))) := Lib.hid (by
    have h := HLI.out.cut q (by rw [List.length_map]; exact hqM)
    rw [← List.map_take] at h
    rwa [show M.take q = M.take most by rw [hq]; exact (List.take_eq_take_min.trans (by rw [Nat.min_comm])).symm] at h)
  have hmin2 : min (M.length : Int) (most : Int) = (q : Int) := by omega
  have HW : Hid (IntKind.i64.wrap (most : Int) = (most : Int)) := Lib.hid (by simp [IntKind.wrap, IntKind.bits, IntKind.signed]; omega)
  have hmin3 : min (M.length : Int) (IntKind.i64.wrap (most : Int)) = (q : Int) := by rw [HW.out]; exact hmin2
  have hmin4 : (if IntKind.i64.wrap (most : Int) < (M.length : Int) then IntKind.i64.wrap (most : Int) else (M.length : Int)) = (q : Int) := by rw [HW.out]; split <;> omega
  have hmin5 : (if (most : Int) < (M.length : Int) then (most : Int) else (M.length : Int)) = (q : Int) := by split <;> omega
  have hmin6 : (if most < M.length then (most : Int) else (M.length : Int)) = (q : Int) := by split <;> omega
  have hmin7 : (if IntKind.i64.wrap (most : Int) < (M.length : Int) then (most : Int) else (M.length : Int)) = (q : Int) := by rw [HW.out]; split <;> omega
  have hq0 : (0 : Int) ≤ (q : Int) := by omega
  have hq1 : (q : Int) ≤ (M.length : Int) := by omega
  have hq2 : (q : Int) ≤ (lc : Int) := by omega
  have hq3 : q ≤ lc := by omega
  have hww : IntKind.i64.wrap (most : Int) = (most : Int) := HW.out
  clear hM HR1 HR2 HLV hl3 hq hmin
  go_wp2_with fail
  dsimp only [List.append]
  go_region_held3 (fun w' => w'.cell? ⟨w.heap.size, 0, none⟩ = some (.int .i64 ta) ∧ w'.cell? ⟨w.heap.size, 1, none⟩ = some (.int .i64 pa) ∧ w'.cell? ⟨w.heap.size, 2, none⟩ = some (.int .i64 ma) ∧ w'.cell? ⟨w.heap.size, 3, none⟩ = some (.int .i64 xa) ∧ w'.cell? ⟨w.heap.size, 4, none⟩ = some (.int .i64 ba) ∧ w'.cell? ⟨w1.heap.size, 0, none⟩ = some (.int .i64 t1) ∧ w'.cell? ⟨w1.heap.size, 1, none⟩ = some (.int .i64 p1) ∧ w'.cell? ⟨w1.heap.size, 2, none⟩ = some (.int .i64 m1) ∧ w'.cell? ⟨w1.heap.size, 3, none⟩ = some (.int .i64 x1) ∧ w'.cell? ⟨w1.heap.size, 4, none⟩ = some (.int .i64 b1) ∧ w'.cell? ⟨w2.heap.size, 0, none⟩ = some (.int .i64 t1) ∧ w'.cell? ⟨w2.heap.size, 1, none⟩ = some (.int .i64 p1) ∧ w'.cell? ⟨w2.heap.size, 2, none⟩ = some (.int .i64 m1) ∧ w'.cell? ⟨w2.heap.size, 3, none⟩ = some (.int .i64 x1) ∧ w'.cell? ⟨w2.heap.size, 4, none⟩ = some (.int .i64 b1))
    ((refine ⟨Keeps.later (a := w5) ?_ ha0, Keeps.later (a := w5) ?_ ha1, Keeps.later (a := w5) ?_ ha2, Keeps.later (a := w5) ?_ ha3, Keeps.later (a := w5) ?_ ha4, Keeps.later (a := w5) ?_ hx0, Keeps.later (a := w5) ?_ hx1, Keeps.later (a := w5) ?_ hx2, Keeps.later (a := w5) ?_ hx3, Keeps.later (a := w5) ?_ hx4, Keeps.later (a := w5) ?_ hy0, Keeps.later (a := w5) ?_ hy1, Keeps.later (a := w5) ?_ hy2, Keeps.later (a := w5) ?_ hy3, Keeps.later (a := w5) ?_ hy4⟩ <;> repeat (first | with_reducible exact HKN.out | with_reducible refine Keeps.alloc ?_ _ | with_reducible refine Keeps.drew ?_)))
    (first | (go_at_call 18; with_reducible refine (begun4_any _).mono ?_; rintro e u ⟨rfl, hk⟩; have HKM := Lib.hid (Keeps.trans (show Keeps w5 _ by repeat (first | with_reducible exact HKN.out | with_reducible refine Keeps.alloc ?_ _ | with_reducible refine Keeps.drew ?_)) hk); clear hk HKN; have HKN := HKM; clear HKM) | (go_at_call 24; with_reducible refine (cwith_any ⟨ta, pa, ma, xa, ba⟩ node _).mono ?_; rintro e u ⟨rfl, hk⟩; have HKM := Lib.hid (Keeps.trans (show Keeps w5 _ by repeat (first | with_reducible exact HKN.out | with_reducible refine Keeps.alloc ?_ _ | with_reducible refine Keeps.drew ?_)) hk); clear hk HKN; have HKN := HKM; clear HKM) | (go_at_call 30; with_reducible refine (rcwith_any ⟨ta, pa, ma, xa, ba⟩ node _ HIN.out).mono ?_; rintro e u ⟨rfl, hk⟩; have HKM := Lib.hid (Keeps.trans (show Keeps w5 _ by repeat (first | with_reducible exact HKN.out | with_reducible refine Keeps.alloc ?_ _ | with_reducible refine Keeps.drew ?_)) hk); clear hk HKN; have HKN := HKM; clear HKM) | (go_at_call 25; with_reducible refine (cwithout_any ⟨ta, pa, ma, xa, ba⟩ node _).mono ?_; rintro e u ⟨rfl, hk⟩; have HKM := Lib.hid (Keeps.trans (show Keeps w5 _ by repeat (first | with_reducible exact HKN.out | with_reducible refine Keeps.alloc ?_ _ | with_reducible refine Keeps.drew ?_)) hk); clear hk HKN; have HKN := HKM; clear HKM) | (go_at_call 31; with_reducible refine (rcwithout_any ⟨ta, pa, ma, xa, ba⟩ node _ HIN.out).mono ?_; rintro e u ⟨rfl, hk⟩; have HKM := Lib.hid (Keeps.trans (show Keeps w5 _ by repeat (first | with_reducible exact HKN.out | with_reducible refine Keeps.alloc ?_ _ | with_reducible refine Keeps.drew ?_)) hk); clear hk HKN; have HKN := HKM; clear HKM) | (go_at_call 26; with_reducible refine (chas_any ⟨ta, pa, ma, xa, ba⟩ node _).mono ?_; rintro e u ⟨rfl, hk⟩; have HKM := Lib.hid (Keeps.trans (show Keeps w5 _ by repeat (first | with_reducible exact HKN.out | with_reducible refine Keeps.alloc ?_ _ | with_reducible refine Keeps.drew ?_)) hk); clear hk HKN; have HKN := HKM; clear HKM) | (go_at_call 32; with_reducible refine (rchas_any ⟨ta, pa, ma, xa, ba⟩ node _).mono ?_; rintro e u ⟨rfl, hk⟩; have HKM := Lib.hid (Keeps.trans (show Keeps w5 _ by repeat (first | with_reducible exact HKN.out | with_reducible refine Keeps.alloc ?_ _ | with_reducible refine Keeps.drew ?_)) hk); clear hk HKN; have HKN := HKM; clear HKM) | (go_at_call 33; with_reducible refine (count_any ⟨ta, pa, ma, xa, ba⟩ _).mono ?_; rw [← HM.out]; rintro e u ⟨rfl, hk⟩; have HKM := Lib.hid (Keeps.trans (show Keeps w5 _ by repeat (first | with_reducible exact HKN.out | with_reducible refine Keeps.alloc ?_ _ | with_reducible refine Keeps.drew ?_)) hk); clear hk HKN; have HKN := HKM; clear HKM) | (go_at_call 36; with_reducible refine (members_any ⟨ta, pa, ma, xa, ba⟩ _).mono ?_; rintro e u ⟨rfl, rfl⟩) | (go_at_call 35; with_reducible refine (mems_told ⟨ta, pa, ma, xa, ba⟩ _ 99 99 rfl (by omega)).mono ?_; rintro e u ⟨v1, rfl, hv1, hk⟩; rw [← HM.out] at hv1; rw [List.take_of_length_le (by omega)] at hv1; have HV1 := Lib.hid hv1; clear hv1; have HKM := Lib.hid (Keeps.trans (show Keeps w5 _ by repeat (first | with_reducible exact HKN.out | with_reducible refine Keeps.alloc ?_ _ | with_reducible refine Keeps.drew ?_)) hk); clear hk HKN; have HKN := HKM; clear HKM) | (go_at_call 35; with_reducible refine (mems_told ⟨ta, pa, ma, xa, ba⟩ _ most _ HW.out (by omega)).mono ?_; rintro e u ⟨v1, rfl, hv1, hk⟩; rw [← HM.out] at hv1; skip; have HV1 := Lib.hid hv1; clear hv1; have HKM := Lib.hid (Keeps.trans (show Keeps w5 _ by repeat (first | with_reducible exact HKN.out | with_reducible refine Keeps.alloc ?_ _ | with_reducible refine Keeps.drew ?_)) hk); clear hk HKN; have HKN := HKM; clear HKM) | (go_at_call 35; with_reducible refine (mems_told ⟨ta, pa, ma, xa, ba⟩ _ most _ rfl (by omega)).mono ?_; rintro e u ⟨v1, rfl, hv1, hk⟩; rw [← HM.out] at hv1; skip; have HV1 := Lib.hid hv1; clear hv1; have HKM := Lib.hid (Keeps.trans (show Keeps w5 _ by repeat (first | with_reducible exact HKN.out | with_reducible refine Keeps.alloc ?_ _ | with_reducible refine Keeps.drew ?_)) hk); clear hk HKN; have HKN := HKM; clear HKM) | (go_at_call 34; with_reducible refine (eqInts_yes v1 _ (M.map fun j : Nat => (j : Int)) _ HV1.out (HLI.out.keeps ?_)).mono ?_; (repeat (first | with_reducible exact HKN.out | with_reducible refine Keeps.alloc ?_ _ | with_reducible refine Keeps.drew ?_)); rintro e u ⟨rfl, hk⟩; have HKM := Lib.hid (Keeps.trans (show Keeps w5 _ by repeat (first | with_reducible exact HKN.out | with_reducible refine Keeps.alloc ?_ _ | with_reducible refine Keeps.drew ?_)) hk); clear hk HKN HV1; have HKN := HKM; clear HKM) | (go_at_call 34; with_reducible refine (eqInts_yes v1 _ ((M.take most).map fun j : Nat => (j : Int)) _ HV1.out (HLC.out.keeps ?_)).mono ?_; (repeat (first | with_reducible exact HKN.out | with_reducible refine Keeps.alloc ?_ _ | with_reducible refine Keeps.drew ?_)); rintro e u ⟨rfl, hk⟩; have HKM := Lib.hid (Keeps.trans (show Keeps w5 _ by repeat (first | with_reducible exact HKN.out | with_reducible refine Keeps.alloc ?_ _ | with_reducible refine Keeps.drew ?_)) hk); clear hk HKN HV1; have HKN := HKM; clear HKM))
  all_goals (first | (go_ret; exact ⟨rfl, HK.out.trans HKN.out⟩) | (go_wp2_with fail; go_ret; exact ⟨rfl, HK.out.trans HKN.out⟩))
end Go.Proofs.Ytdjbalaicfienaa
