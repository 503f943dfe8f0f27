/- The walks of layer 4, 6: Slots on both sides. -/
import Derived.Test.YtdjbalaicfienaaC12
namespace Go.Proofs.Ytdjbalaicfienaa
open Go.RowKit
set_option linter.unusedVariables false
set_option linter.unusedSimpArgs false

def slotsOf (a b : CS) (n : Int) : Int := (b.t * n + b.p - a.t * n - a.p + 256 * n) % (256 * n)
def slotsRes (a b : CS) (n : Int) : Int × Int := if csErr a n = 0 then (if csErr b n = 0 then (slotsOf a b n, 0) else (0, csErr b n)) else (0, csErr a n)

set_option maxHeartbeats 2000000 in
set_option maxRecDepth 100000 in
theorem cslots_a (a b : CS) (n : Int) (w : World) (e0 : Int) (he : csErr a n = e0) (h0 : (e0 != 0) = true) :
    Calls Try.prog 23 #[a.val, b.val, .int .i64 n] w fun e w' => e = .returned (.tuple #[.int .i64 0, .int .i64 e0]) ∧ Keeps w w' := by
  obtain ⟨ta, pa, ma, xa, ba⟩ := a
  obtain ⟨tb, pb, mb, xb, bb⟩ := b
  have HEA := Lib.hid he
  clear he
  show Calls Try.prog 23 #[.agg #[.int .i64 ta, .int .i64 pa, .int .i64 ma, .int .i64 xa, .int .i64 ba], .agg #[.int .i64 tb, .int .i64 pb, .int .i64 mb, .int .i64 xb, .int .i64 bb], .int .i64 n] w _
  go_enter Try.func23, Try.ntmps23
  go_wp2_with fail
  with_reducible refine (ccheck_any ⟨ta, pa, ma, xa, ba⟩ n _).mono ?_
  rw [HEA.out]
  rintro e w1 ⟨rfl, hk1⟩
  have hb := (Box.new (w.alloc (.cells #[.int .i64 ta, .int .i64 pa, .int .i64 ma, .int .i64 xa, .int .i64 ba] 23)) 23 #[.int .i64 tb, .int .i64 pb, .int .i64 mb, .int .i64 xb, .int .i64 bb]).keeps hk1
  have ha := ((Box.new w 23 #[.int .i64 ta, .int .i64 pa, .int .i64 ma, .int .i64 xa, .int .i64 ba]).next (.cells #[.int .i64 tb, .int .i64 pb, .int .i64 mb, .int .i64 xb, .int .i64 bb] 23)).keeps hk1
  rw [World.size_alloc] at hb
  have HA := Lib.hid ha
  have HB := Lib.hid hb
  have b0 := hb.cell 0 _ rfl
  have b1 := hb.cell 1 _ rfl
  have b2 := hb.cell 2 _ rfl
  have b3 := hb.cell 3 _ rfl
  have b4 := hb.cell 4 _ rfl
  have hbl := hb.lt
  have a0 := ha.cell 0 _ rfl
  have a1 := ha.cell 1 _ rfl
  have a2 := ha.cell 2 _ rfl
  have a3 := ha.cell 3 _ rfl
  have a4 := ha.cell 4 _ rfl
  have hal := ha.lt
  have HK := Lib.hid (((Keeps.refl w).alloc _).alloc _ |>.trans hk1)
  clear hk1 hb ha
  go_wp2_with fail
  refine bodyPost_ret (by simp [results, Try.results23, go_sem, *]) rfl ⟨rfl, HK.out⟩

set_option maxHeartbeats 2000000 in
set_option maxRecDepth 100000 in
theorem cslots_b (a b : CS) (n : Int) (w : World) (e0 : Int) (hea : csErr a n = 0) (he : csErr b n = e0) (h0 : (e0 != 0) = true) :
    Calls Try.prog 23 #[a.val, b.val, .int .i64 n] w fun e w' => e = .returned (.tuple #[.int .i64 0, .int .i64 e0]) ∧ Keeps w w' := by
  obtain ⟨ta, pa, ma, xa, ba⟩ := a
  obtain ⟨tb, pb, mb, xb, bb⟩ := b
  have HEA := Lib.hid hea
  have HEB := Lib.hid he
  clear he hea
  show Calls Try.prog 23 #[.agg #[.int .i64 ta, .int .i64 pa, .int .i64 ma, .int .i64 xa, .int .i64 ba], .agg #[.int .i64 tb, .int .i64 pb, .int .i64 mb, .int .i64 xb, .int .i64 bb], .int .i64 n] w _
  go_enter Try.func23, Try.ntmps23
  go_wp2_with fail
  with_reducible refine (ccheck_any ⟨ta, pa, ma, xa, ba⟩ n _).mono ?_
  rw [HEA.out]
  rintro e w1 ⟨rfl, hk1⟩
  have hb := (Box.new (w.alloc (.cells #[.int .i64 ta, .int .i64 pa, .int .i64 ma, .int .i64 xa, .int .i64 ba] 23)) 23 #[.int .i64 tb, .int .i64 pb, .int .i64 mb, .int .i64 xb, .int .i64 bb]).keeps hk1
  have ha := ((Box.new w 23 #[.int .i64 ta, .int .i64 pa, .int .i64 ma, .int .i64 xa, .int .i64 ba]).next (.cells #[.int .i64 tb, .int .i64 pb, .int .i64 mb, .int .i64 xb, .int .i64 bb] 23)).keeps hk1
  rw [World.size_alloc] at hb
  have HA := Lib.hid ha
  have HB := Lib.hid hb
  have b0 := hb.cell 0 _ rfl
  have b1 := hb.cell 1 _ rfl
  have b2 := hb.cell 2 _ rfl
  have b3 := hb.cell 3 _ rfl
  have b4 := hb.cell 4 _ rfl
  have hbl := hb.lt
  have a0 := ha.cell 0 _ rfl
  have a1 := ha.cell 1 _ rfl
  have a2 := ha.cell 2 _ rfl
  have a3 := ha.cell 3 _ rfl
  have a4 := ha.cell 4 _ rfl
  have hal := ha.lt
  have HK := Lib.hid (((Keeps.refl w).alloc _).alloc _ |>.trans hk1)
  clear hk1 hb ha
  go_wp2_with fail
  with_reducible refine (ccheck_any ⟨tb, pb, mb, xb, bb⟩ n _).mono ?_
  rw [HEB.out]
  rintro e w2 ⟨rfl, hk2⟩
  have hb := HB.out.keeps hk2
  have ha := HA.out.keeps hk2
  replace HK := Lib.hid (HK.out.trans hk2)
  clear a0 a1 a2 a3 a4 b0 b1 b2 b3 b4 hal hbl HA HB
  have b0 := hb.cell 0 _ rfl
  have b1 := hb.cell 1 _ rfl
  have a0 := ha.cell 0 _ rfl
  have a1 := ha.cell 1 _ rfl
  have hal := ha.lt
  have hbl := hb.lt
  clear hk2 hb ha
  go_wp2_with fail
  refine bodyPost_ret (by simp [results, Try.results23, go_sem, *]) rfl ⟨rfl, HK.out⟩

set_option maxHeartbeats 4000000 in
set_option maxRecDepth 100000 in
theorem cslots_ok (a b : CS) (n : Int) (w : World) (hn : csN n = true) (ha : csOk a n = true) (hb : csOk b n = true) :
    Calls Try.prog 23 #[a.val, b.val, .int .i64 n] w fun e w' => e = .returned (.tuple #[.int .i64 (slotsOf a b n), .int .i64 0]) ∧ Keeps w w' := by
  have HEA := Lib.hid (csErr_yes hn ha)
  have HEB := Lib.hid (csErr_yes hn hb)
  rw [csOk_iff] at ha hb
  rw [csN_iff] at hn
  obtain ⟨ta, pa, ma, xa, ba⟩ := a
  obtain ⟨tb, pb, mb, xb, bb⟩ := b
  obtain ⟨a1, a2, a3, a4, -⟩ := ha
  obtain ⟨b1, b2, b3, b4, -⟩ := hb
  simp only at a1 a2 a3 a4 b1 b2 b3 b4
  have h5 : n = 4 ∨ n = 5 ∨ n = 6 ∨ n = 7 ∨ n = 8 := by omega
  have hsl : slotsOf ⟨ta, pa, ma, xa, ba⟩ ⟨tb, pb, mb, xb, bb⟩ n = (tb * n + pb - ta * n - pa + 256 * n) % (256 * n) := rfl
  have hw0 : IntKind.i64.wrap (tb - ta) = tb - ta := IntWalk.i64_in _ (by rcases h5 with rfl | rfl | rfl | rfl | rfl <;> omega)
  have hw1 : IntKind.i64.wrap ((tb - ta) * n) = (tb - ta) * n := IntWalk.i64_in _ (by rcases h5 with rfl | rfl | rfl | rfl | rfl <;> omega)
  have hw2 : IntKind.i64.wrap ((tb - ta) * n + pb) = (tb - ta) * n + pb := IntWalk.i64_in _ (by rcases h5 with rfl | rfl | rfl | rfl | rfl <;> omega)
  have hw3 : IntKind.i64.wrap ((tb - ta) * n + pb - pa) = (tb - ta) * n + pb - pa := IntWalk.i64_in _ (by rcases h5 with rfl | rfl | rfl | rfl | rfl <;> omega)
  have hw4 : IntKind.i64.wrap (256 * n) = 256 * n := IntWalk.i64_in _ (by rcases h5 with rfl | rfl | rfl | rfl | rfl <;> omega)
  by_cases hd0 : (tb - ta) * n + pb - pa < 0
  · have hd : decide ((tb - ta) * n + pb - pa < 0) = true := by simpa using hd0
    have hw6 : IntKind.i64.wrap ((tb - ta) * n + pb - pa + 256 * n) = (tb - ta) * n + pb - pa + 256 * n := IntWalk.i64_in _ (by rcases h5 with rfl | rfl | rfl | rfl | rfl <;> omega)
    have hs : slotsOf ⟨ta, pa, ma, xa, ba⟩ ⟨tb, pb, mb, xb, bb⟩ n = (tb - ta) * n + pb - pa + 256 * n := by rw [hsl]; rcases h5 with rfl | rfl | rfl | rfl | rfl <;> omega
    rw [hs]
    clear hsl hs hd0 a1 a2 a3 a4 b1 b2 b3 b4 h5 hn
    show Calls Try.prog 23 #[.agg #[.int .i64 ta, .int .i64 pa, .int .i64 ma, .int .i64 xa, .int .i64 ba], .agg #[.int .i64 tb, .int .i64 pb, .int .i64 mb, .int .i64 xb, .int .i64 bb], .int .i64 n] w _
    go_enter Try.func23, Try.ntmps23
    go_wp2_with fail
    with_reducible refine (ccheck_any ⟨ta, pa, ma, xa, ba⟩ n _).mono ?_
    rw [HEA.out]
    rintro e w1 ⟨rfl, hk1⟩
    have hb := (Box.new (w.alloc (.cells #[.int .i64 ta, .int .i64 pa, .int .i64 ma, .int .i64 xa, .int .i64 ba] 23)) 23 #[.int .i64 tb, .int .i64 pb, .int .i64 mb, .int .i64 xb, .int .i64 bb]).keeps hk1
    have ha := ((Box.new w 23 #[.int .i64 ta, .int .i64 pa, .int .i64 ma, .int .i64 xa, .int .i64 ba]).next (.cells #[.int .i64 tb, .int .i64 pb, .int .i64 mb, .int .i64 xb, .int .i64 bb] 23)).keeps hk1
    rw [World.size_alloc] at hb
    have HA := Lib.hid ha
    have HB := Lib.hid hb
    have b0 := hb.cell 0 _ rfl
    have b1 := hb.cell 1 _ rfl
    have b2 := hb.cell 2 _ rfl
    have b3 := hb.cell 3 _ rfl
    have b4 := hb.cell 4 _ rfl
    have hbl := hb.lt
    have a0 := ha.cell 0 _ rfl
    have a1 := ha.cell 1 _ rfl
    have a2 := ha.cell 2 _ rfl
    have a3 := ha.cell 3 _ rfl
    have a4 := ha.cell 4 _ rfl
    have hal := ha.lt
    have HK := Lib.hid (((Keeps.refl w).alloc _).alloc _ |>.trans hk1)
    clear hk1 hb ha
    go_wp2_with fail
    with_reducible refine (ccheck_any ⟨tb, pb, mb, xb, bb⟩ n _).mono ?_
    rw [HEB.out]
    rintro e w2 ⟨rfl, hk2⟩
    have hb := HB.out.keeps hk2
    have ha := HA.out.keeps hk2
    replace HK := Lib.hid (HK.out.trans hk2)
    clear a0 a1 a2 a3 a4 b0 b1 b2 b3 b4 hal hbl HA HB
    have b0 := hb.cell 0 _ rfl
    have b1 := hb.cell 1 _ rfl
    have a0 := ha.cell 0 _ rfl
    have a1 := ha.cell 1 _ rfl
    have hal := ha.lt
    have hbl := hb.lt
    clear hk2 hb ha
    go_wp2_with fail
    refine bodyPost_ret (by simp [results, Try.results23, go_sem, *]) rfl ⟨rfl, HK.out⟩
  · have hd : decide ((tb - ta) * n + pb - pa < 0) = false := by simpa using hd0
    have hs : slotsOf ⟨ta, pa, ma, xa, ba⟩ ⟨tb, pb, mb, xb, bb⟩ n = (tb - ta) * n + pb - pa := by rw [hsl]; rcases h5 with rfl | rfl | rfl | rfl | rfl <;> omega
    rw [hs]
    clear hsl hs hd0 a1 a2 a3 a4 b1 b2 b3 b4 h5 hn
    show Calls Try.prog 23 #[.agg #[.int .i64 ta, .int .i64 pa, .int .i64 ma, .int .i64 xa, .int .i64 ba], .agg #[.int .i64 tb, .int .i64 pb, .int .i64 mb, .int .i64 xb, .int .i64 bb], .int .i64 n] w _
    go_enter Try.func23, Try.ntmps23
    go_wp2_with fail
    with_reducible refine (ccheck_any ⟨ta, pa, ma, xa, ba⟩ n _).mono ?_
    rw [HEA.out]
    rintro e w1 ⟨rfl, hk1⟩
    have hb := (Box.new (w.alloc (.cells #[.int .i64 ta, .int .i64 pa, .int .i64 ma, .int .i64 xa, .int .i64 ba] 23)) 23 #[.int .i64 tb, .int .i64 pb, .int .i64 mb, .int .i64 xb, .int .i64 bb]).keeps hk1
    have ha := ((Box.new w 23 #[.int .i64 ta, .int .i64 pa, .int .i64 ma, .int .i64 xa, .int .i64 ba]).next (.cells #[.int .i64 tb, .int .i64 pb, .int .i64 mb, .int .i64 xb, .int .i64 bb] 23)).keeps hk1
    rw [World.size_alloc] at hb
    have HA := Lib.hid ha
    have HB := Lib.hid hb
    have b0 := hb.cell 0 _ rfl
    have b1 := hb.cell 1 _ rfl
    have b2 := hb.cell 2 _ rfl
    have b3 := hb.cell 3 _ rfl
    have b4 := hb.cell 4 _ rfl
    have hbl := hb.lt
    have a0 := ha.cell 0 _ rfl
    have a1 := ha.cell 1 _ rfl
    have a2 := ha.cell 2 _ rfl
    have a3 := ha.cell 3 _ rfl
    have a4 := ha.cell 4 _ rfl
    have hal := ha.lt
    have HK := Lib.hid (((Keeps.refl w).alloc _).alloc _ |>.trans hk1)
    clear hk1 hb ha
    go_wp2_with fail
    with_reducible refine (ccheck_any ⟨tb, pb, mb, xb, bb⟩ n _).mono ?_
    rw [HEB.out]
    rintro e w2 ⟨rfl, hk2⟩
    have hb := HB.out.keeps hk2
    have ha := HA.out.keeps hk2
    replace HK := Lib.hid (HK.out.trans hk2)
    clear a0 a1 a2 a3 a4 b0 b1 b2 b3 b4 hal hbl HA HB
    have b0 := hb.cell 0 _ rfl
    have b1 := hb.cell 1 _ rfl
    have a0 := ha.cell 0 _ rfl
    have a1 := ha.cell 1 _ rfl
    have hal := ha.lt
    have hbl := hb.lt
    clear hk2 hb ha
    go_wp2_with fail
    refine bodyPost_ret (by simp [results, Try.results23, go_sem, *]) rfl ⟨rfl, HK.out⟩
theorem cslots_any (a b : CS) (n : Int) (w : World) :
    Calls Try.prog 23 #[a.val, b.val, .int .i64 n] w fun e w' => e = .returned (.tuple #[.int .i64 (slotsRes a b n).1, .int .i64 (slotsRes a b n).2]) ∧ Keeps w w' := by
  unfold slotsRes
  rcases csErr_cases a n with ⟨h, h1, h2⟩ | h
  · rw [if_pos h]
    rcases csErr_cases b n with ⟨g, g1, g2⟩ | g
    · rw [if_pos g]; exact cslots_ok a b n w h1 h2 g2
    · rw [if_neg (by simpa using g)]; exact cslots_b a b n w _ h rfl g
  · rw [if_neg (by simpa using h)]; exact cslots_a a b n w _ rfl h
set_option maxHeartbeats 2000000 in
set_option maxRecDepth 100000 in
theorem rcslots_a (a b : CS) (n : Int) (w : World) (e0 : Int) (he : csErr a n = e0) (h0 : (e0 != 0) = true) :
    Calls Try.prog 28 #[a.val, b.val, .int .i64 n] w fun e w' => e = .returned (.tuple #[.int .i64 0, .int .i64 e0]) ∧ Keeps w w' := by
  obtain ⟨ta, pa, ma, xa, ba⟩ := a
  obtain ⟨tb, pb, mb, xb, bb⟩ := b
  have HEA := Lib.hid he
  clear he
  show Calls Try.prog 28 #[.agg #[.int .i64 ta, .int .i64 pa, .int .i64 ma, .int .i64 xa, .int .i64 ba], .agg #[.int .i64 tb, .int .i64 pb, .int .i64 mb, .int .i64 xb, .int .i64 bb], .int .i64 n] w _
  go_enter Try.func28, Try.ntmps28
  go_wp2_with fail
  with_reducible refine (rccheck_any ⟨ta, pa, ma, xa, ba⟩ n _).mono ?_
  rw [HEA.out]
  rintro e w1 ⟨rfl, hk1⟩
  have hb := (Box.new (w.alloc (.cells #[.int .i64 ta, .int .i64 pa, .int .i64 ma, .int .i64 xa, .int .i64 ba] 23)) 23 #[.int .i64 tb, .int .i64 pb, .int .i64 mb, .int .i64 xb, .int .i64 bb]).keeps hk1
  have ha := ((Box.new w 23 #[.int .i64 ta, .int .i64 pa, .int .i64 ma, .int .i64 xa, .int .i64 ba]).next (.cells #[.int .i64 tb, .int .i64 pb, .int .i64 mb, .int .i64 xb, .int .i64 bb] 23)).keeps hk1
  rw [World.size_alloc] at hb
  have HA := Lib.hid ha
  have HB := Lib.hid hb
  have b0 := hb.cell 0 _ rfl
  have b1 := hb.cell 1 _ rfl
  have b2 := hb.cell 2 _ rfl
  have b3 := hb.cell 3 _ rfl
  have b4 := hb.cell 4 _ rfl
  have hbl := hb.lt
  have a0 := ha.cell 0 _ rfl
  have a1 := ha.cell 1 _ rfl
  have a2 := ha.cell 2 _ rfl
  have a3 := ha.cell 3 _ rfl
  have a4 := ha.cell 4 _ rfl
  have hal := ha.lt
  have HK := Lib.hid (((Keeps.refl w).alloc _).alloc _ |>.trans hk1)
  clear hk1 hb ha
  go_wp2_with fail
  refine bodyPost_ret (by simp [results, Try.results28, go_sem, *]) rfl ⟨rfl, HK.out⟩

set_option maxHeartbeats 2000000 in
set_option maxRecDepth 100000 in
theorem rcslots_b (a b : CS) (n : Int) (w : World) (e0 : Int) (hea : csErr a n = 0) (he : csErr b n = e0) (h0 : (e0 != 0) = true) :
    Calls Try.prog 28 #[a.val, b.val, .int .i64 n] w fun e w' => e = .returned (.tuple #[.int .i64 0, .int .i64 e0]) ∧ Keeps w w' := by
  obtain ⟨ta, pa, ma, xa, ba⟩ := a
  obtain ⟨tb, pb, mb, xb, bb⟩ := b
  have HEA := Lib.hid hea
  have HEB := Lib.hid he
  clear he hea
  show Calls Try.prog 28 #[.agg #[.int .i64 ta, .int .i64 pa, .int .i64 ma, .int .i64 xa, .int .i64 ba], .agg #[.int .i64 tb, .int .i64 pb, .int .i64 mb, .int .i64 xb, .int .i64 bb], .int .i64 n] w _
  go_enter Try.func28, Try.ntmps28
  go_wp2_with fail
  with_reducible refine (rccheck_any ⟨ta, pa, ma, xa, ba⟩ n _).mono ?_
  rw [HEA.out]
  rintro e w1 ⟨rfl, hk1⟩
  have hb := (Box.new (w.alloc (.cells #[.int .i64 ta, .int .i64 pa, .int .i64 ma, .int .i64 xa, .int .i64 ba] 23)) 23 #[.int .i64 tb, .int .i64 pb, .int .i64 mb, .int .i64 xb, .int .i64 bb]).keeps hk1
  have ha := ((Box.new w 23 #[.int .i64 ta, .int .i64 pa, .int .i64 ma, .int .i64 xa, .int .i64 ba]).next (.cells #[.int .i64 tb, .int .i64 pb, .int .i64 mb, .int .i64 xb, .int .i64 bb] 23)).keeps hk1
  rw [World.size_alloc] at hb
  have HA := Lib.hid ha
  have HB := Lib.hid hb
  have b0 := hb.cell 0 _ rfl
  have b1 := hb.cell 1 _ rfl
  have b2 := hb.cell 2 _ rfl
  have b3 := hb.cell 3 _ rfl
  have b4 := hb.cell 4 _ rfl
  have hbl := hb.lt
  have a0 := ha.cell 0 _ rfl
  have a1 := ha.cell 1 _ rfl
  have a2 := ha.cell 2 _ rfl
  have a3 := ha.cell 3 _ rfl
  have a4 := ha.cell 4 _ rfl
  have hal := ha.lt
  have HK := Lib.hid (((Keeps.refl w).alloc _).alloc _ |>.trans hk1)
  clear hk1 hb ha
  go_wp2_with fail
  with_reducible refine (rccheck_any ⟨tb, pb, mb, xb, bb⟩ n _).mono ?_
  rw [HEB.out]
  rintro e w2 ⟨rfl, hk2⟩
  have hb := HB.out.keeps hk2
  have ha := HA.out.keeps hk2
  replace HK := Lib.hid (HK.out.trans hk2)
  clear a0 a1 a2 a3 a4 b0 b1 b2 b3 b4 hal hbl HA HB
  have b0 := hb.cell 0 _ rfl
  have b1 := hb.cell 1 _ rfl
  have a0 := ha.cell 0 _ rfl
  have a1 := ha.cell 1 _ rfl
  have hal := ha.lt
  have hbl := hb.lt
  clear hk2 hb ha
  go_wp2_with fail
  refine bodyPost_ret (by simp [results, Try.results28, go_sem, *]) rfl ⟨rfl, HK.out⟩

set_option maxHeartbeats 4000000 in
set_option maxRecDepth 100000 in
theorem rcslots_ok (a b : CS) (n : Int) (w : World) (hn : csN n = true) (ha : csOk a n = true) (hb : csOk b n = true) :
    Calls Try.prog 28 #[a.val, b.val, .int .i64 n] w fun e w' => e = .returned (.tuple #[.int .i64 (slotsOf a b n), .int .i64 0]) ∧ Keeps w w' := by
  have HEA := Lib.hid (csErr_yes hn ha)
  have HEB := Lib.hid (csErr_yes hn hb)
  rw [csOk_iff] at ha hb
  rw [csN_iff] at hn
  obtain ⟨ta, pa, ma, xa, ba⟩ := a
  obtain ⟨tb, pb, mb, xb, bb⟩ := b
  obtain ⟨a1, a2, a3, a4, -⟩ := ha
  obtain ⟨b1, b2, b3, b4, -⟩ := hb
  simp only at a1 a2 a3 a4 b1 b2 b3 b4
  have h5 : n = 4 ∨ n = 5 ∨ n = 6 ∨ n = 7 ∨ n = 8 := by omega
  have hsl : slotsOf ⟨ta, pa, ma, xa, ba⟩ ⟨tb, pb, mb, xb, bb⟩ n = (tb * n + pb - ta * n - pa + 256 * n) % (256 * n) := rfl
  have hw0 : IntKind.i64.wrap (tb * n) = tb * n := IntWalk.i64_in _ (by rcases h5 with rfl | rfl | rfl | rfl | rfl <;> omega)
  have hw1 : IntKind.i64.wrap (tb * n + pb) = tb * n + pb := IntWalk.i64_in _ (by rcases h5 with rfl | rfl | rfl | rfl | rfl <;> omega)
  have hw2 : IntKind.i64.wrap (ta * n) = ta * n := IntWalk.i64_in _ (by rcases h5 with rfl | rfl | rfl | rfl | rfl <;> omega)
  have hw3 : IntKind.i64.wrap (tb * n + pb - ta * n) = tb * n + pb - ta * n := IntWalk.i64_in _ (by rcases h5 with rfl | rfl | rfl | rfl | rfl <;> omega)
  have hw4 : IntKind.i64.wrap (tb * n + pb - ta * n - pa) = tb * n + pb - ta * n - pa := IntWalk.i64_in _ (by rcases h5 with rfl | rfl | rfl | rfl | rfl <;> omega)
  have hw5 : IntKind.i64.wrap (256 * n) = 256 * n := IntWalk.i64_in _ (by rcases h5 with rfl | rfl | rfl | rfl | rfl <;> omega)
  have hw6 : IntKind.i64.wrap (tb * n + pb - ta * n - pa + 256 * n) = tb * n + pb - ta * n - pa + 256 * n := IntWalk.i64_in _ (by rcases h5 with rfl | rfl | rfl | rfl | rfl <;> omega)
  have hz : (256 * n == 0) = false := by rw [beq_eq_false_iff_ne]; omega
  have hz2 : ¬ 256 * n = 0 := by omega
  have hm : (tb * n + pb - ta * n - pa + 256 * n).tmod (256 * n) = slotsOf ⟨ta, pa, ma, xa, ba⟩ ⟨tb, pb, mb, xb, bb⟩ n := by
    rw [hsl]; exact Int.tmod_eq_emod_of_nonneg (by rcases h5 with rfl | rfl | rfl | rfl | rfl <;> omega)
  have hw7 : IntKind.i64.wrap (slotsOf ⟨ta, pa, ma, xa, ba⟩ ⟨tb, pb, mb, xb, bb⟩ n) = slotsOf ⟨ta, pa, ma, xa, ba⟩ ⟨tb, pb, mb, xb, bb⟩ n := IntWalk.i64_in _ (by rw [hsl]; rcases h5 with rfl | rfl | rfl | rfl | rfl <;> omega)
  obtain ⟨q, hq⟩ : ∃ q, q = slotsOf ⟨ta, pa, ma, xa, ba⟩ ⟨tb, pb, mb, xb, bb⟩ n := ⟨_, rfl⟩
  rw [← hq] at hm hw7 hsl ⊢
  clear hsl hq a1 a2 a3 a4 b1 b2 b3 b4 h5 hn
  show Calls Try.prog 28 #[.agg #[.int .i64 ta, .int .i64 pa, .int .i64 ma, .int .i64 xa, .int .i64 ba], .agg #[.int .i64 tb, .int .i64 pb, .int .i64 mb, .int .i64 xb, .int .i64 bb], .int .i64 n] w _
  go_enter Try.func28, Try.ntmps28
  go_wp2_with fail
  with_reducible refine (rccheck_any ⟨ta, pa, ma, xa, ba⟩ n _).mono ?_
  rw [HEA.out]
  rintro e w1 ⟨rfl, hk1⟩
  have hb := (Box.new (w.alloc (.cells #[.int .i64 ta, .int .i64 pa, .int .i64 ma, .int .i64 xa, .int .i64 ba] 23)) 23 #[.int .i64 tb, .int .i64 pb, .int .i64 mb, .int .i64 xb, .int .i64 bb]).keeps hk1
  have ha := ((Box.new w 23 #[.int .i64 ta, .int .i64 pa, .int .i64 ma, .int .i64 xa, .int .i64 ba]).next (.cells #[.int .i64 tb, .int .i64 pb, .int .i64 mb, .int .i64 xb, .int .i64 bb] 23)).keeps hk1
  rw [World.size_alloc] at hb
  have HA := Lib.hid ha
  have HB := Lib.hid hb
  have b0 := hb.cell 0 _ rfl
  have b1 := hb.cell 1 _ rfl
  have b2 := hb.cell 2 _ rfl
  have b3 := hb.cell 3 _ rfl
  have b4 := hb.cell 4 _ rfl
  have hbl := hb.lt
  have a0 := ha.cell 0 _ rfl
  have a1 := ha.cell 1 _ rfl
  have a2 := ha.cell 2 _ rfl
  have a3 := ha.cell 3 _ rfl
  have a4 := ha.cell 4 _ rfl
  have hal := ha.lt
  have HK := Lib.hid (((Keeps.refl w).alloc _).alloc _ |>.trans hk1)
  clear hk1 hb ha
  go_wp2_with fail
  with_reducible refine (rccheck_any ⟨tb, pb, mb, xb, bb⟩ n _).mono ?_
  rw [HEB.out]
  rintro e w2 ⟨rfl, hk2⟩
  have hb := HB.out.keeps hk2
  have ha := HA.out.keeps hk2
  replace HK := Lib.hid (HK.out.trans hk2)
  clear a0 a1 a2 a3 a4 b0 b1 b2 b3 b4 hal hbl HA HB
  have b0 := hb.cell 0 _ rfl
  have b1 := hb.cell 1 _ rfl
  have a0 := ha.cell 0 _ rfl
  have a1 := ha.cell 1 _ rfl
  have hal := ha.lt
  have hbl := hb.lt
  clear hk2 hb ha
  go_wp2_with fail
  refine bodyPost_ret (by simp [results, Try.results28, go_sem, *]) rfl ⟨rfl, HK.out⟩
theorem rcslots_any (a b : CS) (n : Int) (w : World) :
    Calls Try.prog 28 #[a.val, b.val, .int .i64 n] w fun e w' => e = .returned (.tuple #[.int .i64 (slotsRes a b n).1, .int .i64 (slotsRes a b n).2]) ∧ Keeps w w' := by
  unfold slotsRes
  rcases csErr_cases a n with ⟨h, h1, h2⟩ | h
  · rw [if_pos h]
    rcases csErr_cases b n with ⟨g, g1, g2⟩ | g
    · rw [if_pos g]; exact rcslots_ok a b n w h1 h2 g2
    · rw [if_neg (by simpa using g)]; exact rcslots_b a b n w _ h rfl g
  · rw [if_neg (by simpa using h)]; exact rcslots_a a b n w _ rfl h
end Go.Proofs.Ytdjbalaicfienaa
