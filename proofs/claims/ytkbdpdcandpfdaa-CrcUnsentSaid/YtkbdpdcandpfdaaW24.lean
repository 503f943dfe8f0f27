/- The walks of layer 2, 3: Seal on both sides. -/
import Derived.Test.YtkbdpdcandpfdaaW22
import Derived.Test.YtkbdpdcandpfdaaW21
import Derived.Test.YtkbdpdcandpfdaaW23
namespace Go.Proofs.Ytkbdpdcandpfdaa
open Go.RowKit
set_option linter.unusedVariables false
set_option linter.unusedSimpArgs false

theorem Res.eq {w w' : World} {e : Ending} {r r' : List Bool × Int} (hr : r = r') (h : Res w w' e r') : Res w w' e r := by subst hr; exact h
theorem sumRes_lt (xs : List RB) : (sumRes xs).1 < 16777216 := by
  unfold sumRes
  split
  · exact sumTo_lt _ _
  · decide
theorem sumRes_two_yes (x y : RB) (hx : chk x.n x.l = true) (hy : chk y.n y.l = true) : sumRes [x, y] = (crcOver (crcOver 0 x.bits) y.bits, 0) := by
  unfold sumRes
  simp only [List.all_cons, List.all_nil, hx, hy, Bool.and_true, if_true, List.length_cons, List.length_nil, sumTo, List.take, List.foldl]
theorem sumRes_two_no (x y : RB) (h : (chk x.n x.l && chk y.n y.l) = false) : sumRes [x, y] = (0, 10) := by
  unfold sumRes
  rw [if_neg]
  simp only [List.all_cons, List.all_nil, Bool.and_true]
  rw [h]; decide
def sealRes (x u : RB) : List Bool × Int := if chk u.n u.l && chk x.n x.l then putRes x (crcOver (crcOver 0 u.bits) x.bits) 24 else ([], 10)

set_option maxHeartbeats 1000000 in
set_option maxRecDepth 100000 in
theorem seal_any (x u : RB) (w : World) (hx : x.In w) (hu : u.In w) :
    Calls Try.prog 41 #[x.val, u.val] w fun e w' => Res w w' e (sealRes x u) := by
  have HX := Lib.hid hx
  have HU := Lib.hid hu
  clear hx hu
  obtain ⟨n, a, len, cap, l⟩ := x
  obtain ⟨m, b, len2, cap2, l2⟩ := u
  show Calls Try.prog 41 #[.agg #[.int .i64 n, .slice a len cap], .agg #[.int .i64 m, .slice b len2 cap2]] w _
  have hk0 := ((((Keeps.refl w).alloc (.cells #[.int .i64 n, .slice a len cap] 32)).alloc (.cells #[.int .i64 m, .slice b len2 cap2] 32)).alloc (.cells #[.int .i64 0, .slice none 0 0] 32))
  have HK0 := Lib.hid (hk0.alloc (.cells #[.int .i64 m, .slice b len2 cap2, .int .i64 n, .slice a len cap] 32))
  have hxa := (((Box.new w 32 #[.int .i64 n, .slice a len cap]).next (.cells #[.int .i64 m, .slice b len2 cap2] 32)).next (.cells #[.int .i64 0, .slice none 0 0] 32)).next (.cells #[.int .i64 m, .slice b len2 cap2, .int .i64 n, .slice a len cap] 32)
  have hxz := (Box.new ((w.alloc (.cells #[.int .i64 n, .slice a len cap] 32)).alloc (.cells #[.int .i64 m, .slice b len2 cap2] 32)) 32 #[.int .i64 0, .slice none 0 0]).next (.cells #[.int .i64 m, .slice b len2 cap2, .int .i64 n, .slice a len cap] 32)
  rw [World.size_alloc, World.size_alloc] at hxz
  have hbl := Box.new (((w.alloc (.cells #[.int .i64 n, .slice a len cap] 32)).alloc (.cells #[.int .i64 m, .slice b len2 cap2] 32)).alloc (.cells #[.int .i64 0, .slice none 0 0] 32)) 32 #[.int .i64 m, .slice b len2 cap2, .int .i64 n, .slice a len cap]
  rw [World.size_alloc, World.size_alloc, World.size_alloc] at hbl
  have HXA := Lib.hid hxa
  have HXZ := Lib.hid hxz
  have HBL := Lib.hid hbl
  clear hxa hxz hk0 hbl
  go_enter Try.func41, Try.ntmps41
  go_wp2_with fail
  with_reducible refine (sum_any _ 2 2 [⟨m, b, len2, cap2, l2⟩, ⟨n, a, len, cap, l⟩] _ (by exact RBs.two HBL.out (HU.out.keeps HK0.out) (HX.out.keeps HK0.out))).mono ?_
  cases hc : chk m l2 && chk n l
  · rw [sumRes_two_no _ _ hc]
    rintro e w1 ⟨rfl, hk1⟩
    have HK1 := Lib.hid (HK0.out.trans hk1)
    have hb := HXZ.out.keeps hk1
    have hx0 := hb.cell 0 _ rfl
    have hx1 := hb.cell 1 _ rfl
    have hxf := hb.frozen
    clear hk1 hb HXA HXZ HBL HK0
    go_wp2_with fail
    refine bodyPost_ret (by simp [results, Try.results41, go_sem, RB.zero, *]) rfl (Res.no2 (c := 10) (by unfold sealRes; simp only [hc]; rfl) ⟨rfl, (HK1.out.setCell (by simp; omega) _).setCell (by simp; omega) _⟩)
  · have hc' := hc
    rw [Bool.and_eq_true] at hc'
    rw [sumRes_two_yes _ _ hc'.1 hc'.2]
    have HSR := Lib.hid (show sealRes ⟨n, a, len, cap, l⟩ ⟨m, b, len2, cap2, l2⟩ = putRes ⟨n, a, len, cap, l⟩ (crcOver (crcOver 0 (RB.bits ⟨m, b, len2, cap2, l2⟩)) (RB.bits ⟨n, a, len, cap, l⟩)) 24 by unfold sealRes; rw [if_pos hc])
    have hs := crcOver_lt (RB.bits ⟨n, a, len, cap, l⟩) (crcOver 0 (RB.bits ⟨m, b, len2, cap2, l2⟩)) (crcOver_lt _ _ (by decide))
    obtain ⟨s, hss⟩ : ∃ s : Nat, s = crcOver (crcOver 0 (RB.bits ⟨m, b, len2, cap2, l2⟩)) (RB.bits ⟨n, a, len, cap, l⟩) := ⟨_, rfl⟩
    rw [← hss] at hs HSR ⊢
    clear hss hc hc'
    rintro e w1 ⟨rfl, hk1⟩
    have HK1 := Lib.hid (HK0.out.trans hk1)
    have HXA1 := Lib.hid (HXA.out.keeps hk1)
    have HXZ1 := Lib.hid (HXZ.out.keeps hk1)
    have hb0 := HXA1.out.cell 0 _ rfl
    have hb1 := HXA1.out.cell 1 _ rfl
    clear hk1 HXA HXZ HBL HK0
    go_wp2_with fail
    with_reducible refine (put_any ⟨n, a, len, cap, l⟩ s 24 _ (by exact HX.out.keeps HK1.out) (by omega)).mono ?_
    rintro e w2 ⟨y, rfl, hy, hf, hk2⟩
    have HY := Lib.hid hy
    have HK2 := Lib.hid (HK1.out.trans hk2)
    have hbx := HXZ1.out.keeps hk2
    have hz0 := hbx.cell 0 _ rfl
    have hz1 := hbx.cell 1 _ rfl
    have hzf := hbx.frozen
    have hsz := HXZ1.out.lt
    have HF := Lib.hid hf
    clear hy hk2 hbx HXA1 HXZ1 hb0 hb1 hf
    obtain ⟨n', b', len', cap', l'⟩ := y
    go_wp2_with fail
    refine bodyPost_ret (by simp [results, Try.results41, go_sem, RB.val, *]) rfl (Res.eq HSR.out ⟨⟨n', b', len', cap', l'⟩, rfl, ?_, fun a ha => ?_, ?_⟩)
    · exact (HY.out.put HF.out (by omega) _ _).put HF.out (by omega) _ _
    · have := HF.out a ha; omega
    · exact (HK2.out.setCell (by simp; omega) _).setCell (by simp; omega) _

set_option maxHeartbeats 1000000 in
set_option maxRecDepth 100000 in
theorem rseal_any (x u : RB) (w : World) (hx : x.In w) (hu : u.In w) :
    Calls Try.prog 43 #[x.val, u.val] w fun e w' => Res w w' e (sealRes x u) := by
  have HX := Lib.hid hx
  have HU := Lib.hid hu
  clear hx hu
  obtain ⟨n, a, len, cap, l⟩ := x
  obtain ⟨m, b, len2, cap2, l2⟩ := u
  show Calls Try.prog 43 #[.agg #[.int .i64 n, .slice a len cap], .agg #[.int .i64 m, .slice b len2 cap2]] w _
  have hk0 := ((((Keeps.refl w).alloc (.cells #[.int .i64 n, .slice a len cap] 32)).alloc (.cells #[.int .i64 m, .slice b len2 cap2] 32)).alloc (.cells #[.int .i64 0, .slice none 0 0] 32))
  have HK0 := Lib.hid (hk0.alloc (.cells #[.int .i64 m, .slice b len2 cap2, .int .i64 n, .slice a len cap] 32))
  have hxa := (((Box.new w 32 #[.int .i64 n, .slice a len cap]).next (.cells #[.int .i64 m, .slice b len2 cap2] 32)).next (.cells #[.int .i64 0, .slice none 0 0] 32)).next (.cells #[.int .i64 m, .slice b len2 cap2, .int .i64 n, .slice a len cap] 32)
  have hxz := (Box.new ((w.alloc (.cells #[.int .i64 n, .slice a len cap] 32)).alloc (.cells #[.int .i64 m, .slice b len2 cap2] 32)) 32 #[.int .i64 0, .slice none 0 0]).next (.cells #[.int .i64 m, .slice b len2 cap2, .int .i64 n, .slice a len cap] 32)
  rw [World.size_alloc, World.size_alloc] at hxz
  have hbl := Box.new (((w.alloc (.cells #[.int .i64 n, .slice a len cap] 32)).alloc (.cells #[.int .i64 m, .slice b len2 cap2] 32)).alloc (.cells #[.int .i64 0, .slice none 0 0] 32)) 32 #[.int .i64 m, .slice b len2 cap2, .int .i64 n, .slice a len cap]
  rw [World.size_alloc, World.size_alloc, World.size_alloc] at hbl
  have HXA := Lib.hid hxa
  have HXZ := Lib.hid hxz
  have HBL := Lib.hid hbl
  clear hxa hxz hk0 hbl
  go_enter Try.func43, Try.ntmps43
  go_wp2_with fail
  with_reducible refine (rsum_any _ 2 2 [⟨m, b, len2, cap2, l2⟩, ⟨n, a, len, cap, l⟩] _ (by exact RBs.two HBL.out (HU.out.keeps HK0.out) (HX.out.keeps HK0.out))).mono ?_
  cases hc : chk m l2 && chk n l
  · rw [sumRes_two_no _ _ hc]
    rintro e w1 ⟨rfl, hk1⟩
    have HK1 := Lib.hid (HK0.out.trans hk1)
    have hb := HXZ.out.keeps hk1
    have hx0 := hb.cell 0 _ rfl
    have hx1 := hb.cell 1 _ rfl
    have hxf := hb.frozen
    clear hk1 hb HXA HXZ HBL HK0
    go_wp2_with fail
    refine bodyPost_ret (by simp [results, Try.results43, go_sem, RB.zero, *]) rfl (Res.no2 (c := 10) (by unfold sealRes; simp only [hc]; rfl) ⟨rfl, (HK1.out.setCell (by simp; omega) _).setCell (by simp; omega) _⟩)
  · have hc' := hc
    rw [Bool.and_eq_true] at hc'
    rw [sumRes_two_yes _ _ hc'.1 hc'.2]
    have HSR := Lib.hid (show sealRes ⟨n, a, len, cap, l⟩ ⟨m, b, len2, cap2, l2⟩ = putRes ⟨n, a, len, cap, l⟩ (crcOver (crcOver 0 (RB.bits ⟨m, b, len2, cap2, l2⟩)) (RB.bits ⟨n, a, len, cap, l⟩)) 24 by unfold sealRes; rw [if_pos hc])
    have hs := crcOver_lt (RB.bits ⟨n, a, len, cap, l⟩) (crcOver 0 (RB.bits ⟨m, b, len2, cap2, l2⟩)) (crcOver_lt _ _ (by decide))
    obtain ⟨s, hss⟩ : ∃ s : Nat, s = crcOver (crcOver 0 (RB.bits ⟨m, b, len2, cap2, l2⟩)) (RB.bits ⟨n, a, len, cap, l⟩) := ⟨_, rfl⟩
    rw [← hss] at hs HSR ⊢
    clear hss hc hc'
    rintro e w1 ⟨rfl, hk1⟩
    have HK1 := Lib.hid (HK0.out.trans hk1)
    have HXA1 := Lib.hid (HXA.out.keeps hk1)
    have HXZ1 := Lib.hid (HXZ.out.keeps hk1)
    have hb0 := HXA1.out.cell 0 _ rfl
    have hb1 := HXA1.out.cell 1 _ rfl
    clear hk1 HXA HXZ HBL HK0
    go_wp2_with fail
    with_reducible refine (rput_any ⟨n, a, len, cap, l⟩ s 24 _ (by exact HX.out.keeps HK1.out) (by omega)).mono ?_
    rintro e w2 ⟨y, rfl, hy, hf, hk2⟩
    have HY := Lib.hid hy
    have HK2 := Lib.hid (HK1.out.trans hk2)
    have hbx := HXZ1.out.keeps hk2
    have hz0 := hbx.cell 0 _ rfl
    have hz1 := hbx.cell 1 _ rfl
    have hzf := hbx.frozen
    have hsz := HXZ1.out.lt
    have HF := Lib.hid hf
    clear hy hk2 hbx HXA1 HXZ1 hb0 hb1 hf
    obtain ⟨n', b', len', cap', l'⟩ := y
    go_wp2_with fail
    refine bodyPost_ret (by simp [results, Try.results43, go_sem, RB.val, *]) rfl (Res.eq HSR.out ⟨⟨n', b', len', cap', l'⟩, rfl, ?_, fun a ha => ?_, ?_⟩)
    · exact (HY.out.put HF.out (by omega) _ _).put HF.out (by omega) _ _
    · have := HF.out a ha; omega
    · exact (HK2.out.setCell (by simp; omega) _).setCell (by simp; omega) _
end Go.Proofs.Ytkbdpdcandpfdaa
