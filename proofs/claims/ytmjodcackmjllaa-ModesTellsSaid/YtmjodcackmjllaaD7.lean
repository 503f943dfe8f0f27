/- Layer 10, 7: the law's begun. -/
import Derived.Test.YtmjodcackmjllaaD4
import Derived.Test.YtmjodcackmjllaaM12
import Derived.Deep.DeepCutAuto
namespace Go.Proofs.Ytmjodcackmjllaa
open Go.RowKit Go.Shelf
set_option linter.unusedVariables false
set_option linter.unusedSimpArgs false
/-- two modes, each of which may come behind the other one -/
def two10 (dv ev nv : Value) : RM := ⟨dv, ev, nv, [2, 2, 2, 2], [true, true, true, true], [true, true]⟩
def medl10 (cv dv ev nv : Value) (ma : Option Addr) : RMedl := ⟨4, 138, 38, 16, 0, 1, cv, [true, true, true, true], ma, 2, 2, [two10 dv ev nv, two10 dv ev nv]⟩
theorem ask10 (cv dv ev nv : Value) (ma : Option Addr) : askR (medl10 cv dv ev nv ma) CS.zero 1 = (2, 0) := by kernel_rfl
theorem take10 (cv dv ev nv : Value) (ma : Option Addr) : takeR (medl10 cv dv ev nv ma) CS.zero 2 = (⟨0, 0, 0, 2, 0⟩, 0) := by kernel_rfl
theorem may10 (cv dv ev nv : Value) (ma : Option Addr) : mayR (medl10 cv dv ev nv ma) CS.zero 1 = true := by kernel_rfl
theorem may10b (cv dv ev nv : Value) (ma : Option Addr) : mayR (medl10 cv dv ev nv ma) ⟨0, 0, 0, 2, 0⟩ 1 = false := by kernel_rfl
theorem bools2 {w : World} {B : Nat} (h : Box w B 4 #[.bool true, .bool true]) : Bools w (.slice (some ⟨B, 0, none⟩) 2 2) [true, true] := by
  refine ⟨some ⟨B, 0, none⟩, 2, rfl, Nat.le_refl _, by decide, rfl, fun i hi => ?_⟩
  refine ⟨B, 0, rfl, ?_⟩
  have hi2 : i < 2 := hi
  have hc := h.cell i ((#[Value.bool true, .bool true] : Array Value)[i]'(by simpa using hi2)) (by simp [hi2])
  rw [Nat.zero_add, hc]
  match i, hi2 with
  | 0, _ => rfl
  | 1, _ => rfl
set_option maxRecDepth 100000 in
set_option maxHeartbeats 4000000 in
theorem begun10_any (w : World) : Calls Try.prog 15 #[] w fun e w' => e = .returned (.bool true) ∧ Keeps w w' := by
  go_enter Try.func15, Try.ntmps15
  go_wp2_with fail
  (with_reducible refine (rplain_any 4 0 _ (by decide) (by decide) (by decide) (by decide)).mono ?_)
  rintro e w1 ⟨m, rfl, hm, hk1⟩
  have HI := Lib.hid hm.isIn
  have e1 := hm.nodes
  have e2 := hm.drift
  have e3 := hm.delay
  have e4 := hm.window
  have e5 := hm.gap
  have e6 := hm.slot
  have e7 := hm.cs
  obtain ⟨x, e8, x1, x2, x3⟩ := hm.xs
  clear hm
  obtain ⟨no, sl, ga, wi, dr, de, cv, cs, ma, mn, mc, xs⟩ := m
  obtain ⟨dv, ev, nv, ds, es, ns⟩ := x
  simp only at e1 e2 e3 e4 e5 e7 e8 x1 x2 x3
  subst e1 e2 e3 e7 e8 x1 x2 x3
  obtain rfl : wi = 16 := by rw [e4]; rfl
  obtain rfl : ga = 38 := by rw [e5]; rfl
  have e9 : sl = 138 := by rw [show sl = _ from e6]; kernel_rfl
  subst e9
  clear e4 e5 e6
  have hml := HI.out.m.len
  have hmc := HI.out.m.hcap
  have hmx := HI.out.m.hmax
  simp only [List.length_singleton] at hml hmc hmx
  subst hml
  obtain ⟨ca, cc, hcv, hc1, hc2, -⟩ := HI.out.c.shape
  have HX := Lib.hid (HI.out.m.isIn _ (List.mem_singleton.2 rfl))
  obtain ⟨da, dc, hdv, hd1, hd2, -⟩ := HX.out.d.shape
  obtain ⟨ea, ec, hev, he1, he2, -⟩ := HX.out.e.shape
  obtain ⟨na, nc, hnv, hn1, hn2, -⟩ := HX.out.n.shape
  simp only at hcv hdv hev hnv
  have hcv2 : cv = .slice ca 4 cc := hcv
  have hdv2 : dv = .slice da 4 dc := hdv
  have hev2 : ev = .slice ea 4 ec := hev
  have hnv2 : nv = .slice na 1 nc := hnv
  clear hcv hdv hev hnv
  subst hcv2 hdv2 hev2 hnv2
  obtain ⟨b, off, hab, hcell⟩ := HI.out.m.addr (by simp)
  simp only at hab
  subst hab
  obtain ⟨g0, g1, g2⟩ := hcell 0 (by simp)
  simp only [List.getElem_cons_zero, Nat.zero_mul, Nat.add_zero] at g0 g1 g2
  have HK := Lib.hid hk1
  have HCB : Hid (Bools w1 (.slice ca 4 cc) [true, true, true, true]) := Lib.hid HI.out.c
  have HDI : Hid (Ints w1 (.slice da 4 dc) [2, 2, 2, 2]) := Lib.hid HX.out.d
  have HEB : Hid (Bools w1 (.slice ea 4 ec) [true, true, true, true]) := Lib.hid HX.out.e
  clear hk1 hcell HI HX
  have hb := World.block_lt_of_cell? _ _ g0
  simp only at hb
  have HASK : Hid (∀ w, RMedl.In (medl10 (.slice ca 4 cc) (.slice da 4 dc) (.slice ea 4 ec) (.slice (some ⟨w1.heap.size + 1 + 1, 0, none⟩) 2 2) (some ⟨w1.heap.size + 1 + 1 + 1, 0, none⟩)) w → Calls Try.prog 14 #[.agg #[.int .i64 4, .int .i64 138, .int .i64 38, .int .i64 16, .int .i64 0, .int .i64 1, .slice ca 4 cc, .slice (some ⟨w1.heap.size + 1 + 1 + 1, 0, none⟩) 2 2], .agg #[.int .i64 0, .int .i64 0, .int .i64 0, .int .i64 0, .int .i64 0], .int .i64 1] w fun e w' => e = .returned (.tuple #[.int .i64 2, .int .i64 0]) ∧ Keeps w w') := Lib.hid (fun w h => by have h2 := askX_any _ CS.zero 1 w h; rw [ask10] at h2; exact h2)
  have HTAK : Hid (∀ w, RMedl.In (medl10 (.slice ca 4 cc) (.slice da 4 dc) (.slice ea 4 ec) (.slice (some ⟨w1.heap.size + 1 + 1, 0, none⟩) 2 2) (some ⟨w1.heap.size + 1 + 1 + 1, 0, none⟩)) w → Calls Try.prog 16 #[.agg #[.int .i64 4, .int .i64 138, .int .i64 38, .int .i64 16, .int .i64 0, .int .i64 1, .slice ca 4 cc, .slice (some ⟨w1.heap.size + 1 + 1 + 1, 0, none⟩) 2 2], .agg #[.int .i64 0, .int .i64 0, .int .i64 0, .int .i64 0, .int .i64 0], .int .i64 2] w fun e w' => e = .returned (.tuple #[.agg #[.int .i64 0, .int .i64 0, .int .i64 0, .int .i64 2, .int .i64 0], .int .i64 0]) ∧ Keeps w w') := Lib.hid (fun w h => by have h2 := takeX_any _ CS.zero 2 w h; rw [take10] at h2; exact h2)
  have HMAY : Hid (∀ w, RMedl.In (medl10 (.slice ca 4 cc) (.slice da 4 dc) (.slice ea 4 ec) (.slice (some ⟨w1.heap.size + 1 + 1, 0, none⟩) 2 2) (some ⟨w1.heap.size + 1 + 1 + 1, 0, none⟩)) w → Calls Try.prog 24 #[.agg #[.int .i64 4, .int .i64 138, .int .i64 38, .int .i64 16, .int .i64 0, .int .i64 1, .slice ca 4 cc, .slice (some ⟨w1.heap.size + 1 + 1 + 1, 0, none⟩) 2 2], .agg #[.int .i64 0, .int .i64 0, .int .i64 0, .int .i64 0, .int .i64 0], .int .i64 1] w fun e w' => e = .returned (.bool true) ∧ Keeps w w') := Lib.hid (fun w h => by have h2 := mayX_any _ CS.zero 1 w h; rw [may10] at h2; exact h2)
  have HMAY2 : Hid (∀ w, RMedl.In (medl10 (.slice ca 4 cc) (.slice da 4 dc) (.slice ea 4 ec) (.slice (some ⟨w1.heap.size + 1 + 1, 0, none⟩) 2 2) (some ⟨w1.heap.size + 1 + 1 + 1, 0, none⟩)) w → Calls Try.prog 24 #[.agg #[.int .i64 4, .int .i64 138, .int .i64 38, .int .i64 16, .int .i64 0, .int .i64 1, .slice ca 4 cc, .slice (some ⟨w1.heap.size + 1 + 1 + 1, 0, none⟩) 2 2], .agg #[.int .i64 0, .int .i64 0, .int .i64 0, .int .i64 2, .int .i64 0], .int .i64 1] w fun e w' => e = .returned (.bool false) ∧ Keeps w w') := Lib.hid (fun w h => by have h2 := mayX_any _ ⟨0, 0, 0, 2, 0⟩ 1 w h; rw [may10b] at h2; exact h2)
  go_upto_region 5 with fail
  obtain ⟨W5, hW5⟩ : ∃ W, W = ((((w1.alloc (.cells #[.int .i64 4, .int .i64 138, .int .i64 38, .int .i64 16, .int .i64 0, .int .i64 1, .slice ca 4 cc, .slice (some ⟨w1.heap.size + 1 + 1 + 1, 0, none⟩) 2 2] 25)).alloc (.cells #[.slice da 4 dc, .slice ea 4 ec, .slice (some ⟨w1.heap.size + 1 + 1, 0, none⟩) 2 2] 71)).alloc (.cells #[.bool true, .bool true] 4)).alloc (.cells #[.slice da 4 dc, .slice ea 4 ec, .slice (some ⟨w1.heap.size + 1 + 1, 0, none⟩) 2 2, .slice da 4 dc, .slice ea 4 ec, .slice (some ⟨w1.heap.size + 1 + 1, 0, none⟩) 2 2] 71)) := ⟨_, rfl⟩
  have HKK : Hid (Keeps w1 W5) := Lib.hid (by rw [hW5]; exact ((((Keeps.refl w1).alloc _).alloc _).alloc _).alloc _)
  have HBM : Hid (Box W5 w1.heap.size 25 #[.int .i64 4, .int .i64 138, .int .i64 38, .int .i64 16, .int .i64 0, .int .i64 1, .slice ca 4 cc, .slice (some ⟨w1.heap.size + 1 + 1 + 1, 0, none⟩) 2 2]) := Lib.hid (by rw [hW5]; exact (((Box.new w1 25 #[.int .i64 4, .int .i64 138, .int .i64 38, .int .i64 16, .int .i64 0, .int .i64 1, .slice ca 4 cc, .slice (some ⟨w1.heap.size + 1 + 1 + 1, 0, none⟩) 2 2]).next _).next _).next _)
  have HBH : Hid (Box W5 (w1.heap.size + 1 + 1) 4 #[.bool true, .bool true]) := Lib.hid (by
    rw [hW5]
    have h := Box.new ((w1.alloc (.cells #[.int .i64 4, .int .i64 138, .int .i64 38, .int .i64 16, .int .i64 0, .int .i64 1, .slice ca 4 cc, .slice (some ⟨w1.heap.size + 1 + 1 + 1, 0, none⟩) 2 2] 25)).alloc (.cells #[.slice da 4 dc, .slice ea 4 ec, .slice (some ⟨w1.heap.size + 1 + 1, 0, none⟩) 2 2] 71)) 4 #[.bool true, .bool true]
    simp only [World.size_alloc] at h
    exact h.next _)
  have HBG : Hid (Box W5 (w1.heap.size + 1 + 1 + 1) 71 #[.slice da 4 dc, .slice ea 4 ec, .slice (some ⟨w1.heap.size + 1 + 1, 0, none⟩) 2 2, .slice da 4 dc, .slice ea 4 ec, .slice (some ⟨w1.heap.size + 1 + 1, 0, none⟩) 2 2]) := Lib.hid (by
    rw [hW5]
    have h := Box.new (((w1.alloc (.cells #[.int .i64 4, .int .i64 138, .int .i64 38, .int .i64 16, .int .i64 0, .int .i64 1, .slice ca 4 cc, .slice (some ⟨w1.heap.size + 1 + 1 + 1, 0, none⟩) 2 2] 25)).alloc (.cells #[.slice da 4 dc, .slice ea 4 ec, .slice (some ⟨w1.heap.size + 1 + 1, 0, none⟩) 2 2] 71)).alloc (.cells #[.bool true, .bool true] 4)) 71 #[.slice da 4 dc, .slice ea 4 ec, .slice (some ⟨w1.heap.size + 1 + 1, 0, none⟩) 2 2, .slice da 4 dc, .slice ea 4 ec, .slice (some ⟨w1.heap.size + 1 + 1, 0, none⟩) 2 2]
    simp only [World.size_alloc] at h
    exact h)
  rw [← hW5]
  clear hW5 g0 g1 g2 hb
  have HTI : Hid (RM.In (two10 (.slice da 4 dc) (.slice ea 4 ec) (.slice (some ⟨w1.heap.size + 1 + 1, 0, none⟩) 2 2)) W5) := Lib.hid ⟨HDI.out.keeps HKK.out, HEB.out.keeps HKK.out, bools2 HBH.out⟩
  have HMI : Hid (RMedl.In (medl10 (.slice ca 4 cc) (.slice da 4 dc) (.slice ea 4 ec) (.slice (some ⟨w1.heap.size + 1 + 1, 0, none⟩) 2 2) (some ⟨w1.heap.size + 1 + 1 + 1, 0, none⟩)) W5) := Lib.hid (by
    refine ⟨HCB.out.keeps HKK.out, ⟨rfl, (show 2 ≤ 2 by decide), (show 2 ≤ 9223372036854775807 by decide), fun x hx => ?_, fun i hi => ?_⟩⟩
    · simp only [medl10, List.mem_cons, List.not_mem_nil, or_false, or_self] at hx
      rw [hx]; exact HTI.out
    · have hi2 : i < 2 := hi
      refine ⟨w1.heap.size + 1 + 1 + 1, 0, rfl, ?_⟩
      match i, hi2 with
      | 0, _ => exact ⟨HBG.out.cell 0 _ rfl, HBG.out.cell 1 _ rfl, HBG.out.cell 2 _ rfl⟩
      | 1, _ => exact ⟨HBG.out.cell 3 _ rfl, HBG.out.cell 4 _ rfl, HBG.out.cell 5 _ rfl⟩)
  replace HK := Lib.hid (HK.out.trans HKK.out)
  clear HTI HBH HBG HKK HCB HDI HEB
  have m0 := HBM.out.cell 0 _ rfl
  have m1 := HBM.out.cell 1 _ rfl
  have m2 := HBM.out.cell 2 _ rfl
  have m3 := HBM.out.cell 3 _ rfl
  have m4 := HBM.out.cell 4 _ rfl
  have m5 := HBM.out.cell 5 _ rfl
  have m6 := HBM.out.cell 6 _ rfl
  have m7 := HBM.out.cell 7 _ rfl
  have ml := HBM.out.lt
  go_wp2_with fail
  (with_reducible refine (HASK.out _ (by exact HMI.out)).mono ?_)
  rintro e w2 ⟨rfl, hk1⟩
  replace HBM := Lib.hid (HBM.out.keeps hk1)
  replace HMI := Lib.hid (HMI.out.keeps hk1)
  replace HK := Lib.hid (HK.out.trans hk1)
  clear hk1 HASK m0 m1 m2 m3 m4 m5 m6 m7 ml
  have m0 := HBM.out.cell 0 _ rfl
  have m1 := HBM.out.cell 1 _ rfl
  have m2 := HBM.out.cell 2 _ rfl
  have m3 := HBM.out.cell 3 _ rfl
  have m4 := HBM.out.cell 4 _ rfl
  have m5 := HBM.out.cell 5 _ rfl
  have m6 := HBM.out.cell 6 _ rfl
  have m7 := HBM.out.cell 7 _ rfl
  have ml := HBM.out.lt
  go_wp2_with fail
  (with_reducible refine (HTAK.out _ (by exact HMI.out)).mono ?_)
  rintro e w3 ⟨rfl, hk1⟩
  have HCB := Lib.hid (Box.new w3 27 #[.int .i64 0, .int .i64 0, .int .i64 0, .int .i64 2, .int .i64 0])
  replace HBM := Lib.hid ((HBM.out.keeps hk1).next (.cells #[.int .i64 0, .int .i64 0, .int .i64 0, .int .i64 2, .int .i64 0] 27))
  replace HMI := Lib.hid ((HMI.out.keeps hk1).keeps ((Keeps.refl _).alloc (.cells #[.int .i64 0, .int .i64 0, .int .i64 0, .int .i64 2, .int .i64 0] 27)))
  replace HK := Lib.hid ((HK.out.trans hk1).alloc (.cells #[.int .i64 0, .int .i64 0, .int .i64 0, .int .i64 2, .int .i64 0] 27))
  clear hk1 HTAK m0 m1 m2 m3 m4 m5 m6 m7 ml
  have m0 := HBM.out.cell 0 _ rfl
  have m1 := HBM.out.cell 1 _ rfl
  have m2 := HBM.out.cell 2 _ rfl
  have m3 := HBM.out.cell 3 _ rfl
  have m4 := HBM.out.cell 4 _ rfl
  have m5 := HBM.out.cell 5 _ rfl
  have m6 := HBM.out.cell 6 _ rfl
  have m7 := HBM.out.cell 7 _ rfl
  have ml := HBM.out.lt
  have c0 := HCB.out.cell 0 _ rfl
  have c1 := HCB.out.cell 1 _ rfl
  have c2 := HCB.out.cell 2 _ rfl
  have c3 := HCB.out.cell 3 _ rfl
  have c4 := HCB.out.cell 4 _ rfl
  have cl := HCB.out.lt
  go_wp2_with fail
  (with_reducible refine (HMAY.out _ (by exact HMI.out)).mono ?_)
  rintro e w4 ⟨rfl, hk1⟩
  replace HBM := Lib.hid (HBM.out.keeps hk1)
  replace HCB := Lib.hid (HCB.out.keeps hk1)
  replace HMI := Lib.hid (HMI.out.keeps hk1)
  replace HK := Lib.hid (HK.out.trans hk1)
  clear hk1 HMAY m0 m1 m2 m3 m4 m5 m6 m7 ml c0 c1 c2 c3 c4 cl
  have m0 := HBM.out.cell 0 _ rfl
  have m1 := HBM.out.cell 1 _ rfl
  have m2 := HBM.out.cell 2 _ rfl
  have m3 := HBM.out.cell 3 _ rfl
  have m4 := HBM.out.cell 4 _ rfl
  have m5 := HBM.out.cell 5 _ rfl
  have m6 := HBM.out.cell 6 _ rfl
  have m7 := HBM.out.cell 7 _ rfl
  have ml := HBM.out.lt
  have c0 := HCB.out.cell 0 _ rfl
  have c1 := HCB.out.cell 1 _ rfl
  have c2 := HCB.out.cell 2 _ rfl
  have c3 := HCB.out.cell 3 _ rfl
  have c4 := HCB.out.cell 4 _ rfl
  have cl := HCB.out.lt
  go_wp2_with fail
  (with_reducible refine (HMAY2.out _ (by exact HMI.out)).mono ?_)
  rintro e w5 ⟨rfl, hk1⟩
  replace HK := Lib.hid (HK.out.trans hk1)
  clear hk1
  go_wp2_with fail
  go_ret
  exact ⟨rfl, HK.out⟩
end Go.Proofs.Ytmjodcackmjllaa
