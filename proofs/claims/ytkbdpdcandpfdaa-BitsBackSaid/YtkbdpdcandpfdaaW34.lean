/- What the statements of layer 1 begin with; the walk of BitsPuts. -/
import Derived.Test.YtkbdpdcandpfdaaW33
import Derived.Test.YtkbdpdcandpfdaaW16
namespace Go.Proofs.Ytkbdpdcandpfdaa
open Go.RowKit
set_option linter.unusedVariables false
set_option linter.unusedSimpArgs false

def getRes (x : RB) (av wv : Int) : Nat × Int := if chk x.n x.l then (if argOk x.n av wv then (getTo x.bits av.toNat wv.toNat, 0) else (0, 2)) else (0, 10)
theorem get_any (x : RB) (av wv : Int) (w : World) (hx : x.In w) (hb1 : -9223372036854775808 ≤ av) (hb2 : av ≤ 9223372036854775807) :
    Calls Try.prog 23 #[x.val, .int .i64 av, .int .i64 wv] w fun e w' => e = .returned (.tuple #[.int .u64 (getRes x av wv).1, .int .i64 (getRes x av wv).2]) ∧ Keeps w w' := by
  unfold getRes
  cases hc : chk x.n x.l
  · exact get_bad x av wv w hx hc
  cases ha : argOk x.n av wv
  · exact get_arg x av wv w hx hc ha hb1 hb2
  · have hi := hx.is hc
    have hn : x.n = (x.bits.length : Int) := hi.n
    simp only [argOk, Bool.and_eq_true, decide_eq_true_eq] at ha
    exact get_ok x x.bits av.toNat wv.toNat av wv w (by omega) (by omega) hi (by omega) (by omega)
theorem rget_any (x : RB) (av wv : Int) (w : World) (hx : x.In w) (hb1 : -9223372036854775808 ≤ av) (hb2 : av ≤ 9223372036854775807) :
    Calls Try.prog 24 #[x.val, .int .i64 av, .int .i64 wv] w fun e w' => e = .returned (.tuple #[.int .u64 (getRes x av wv).1, .int .i64 (getRes x av wv).2]) ∧ Keeps w w' := by
  unfold getRes
  cases hc : chk x.n x.l
  · exact rget_bad x av wv w hx hc
  cases ha : argOk x.n av wv
  · exact rget_arg x av wv w hx hc ha hb1 hb2
  · have hi := hx.is hc
    have hn : x.n = (x.bits.length : Int) := hi.n
    simp only [argOk, Bool.and_eq_true, decide_eq_true_eq] at ha
    exact rget_ok x x.bits av.toNat wv.toNat av wv w (by omega) (by omega) hi (by omega) (by omega)

theorem listOf_is {x : RB} {w : World} {bs : List Bool} (h : x.Is w bs) : listOf x = bs := by
  unfold listOf
  rw [h.chk, if_pos rfl, h.bits]
theorem begun_put1 (w : World) : Calls Try.prog 21 #[.agg #[.int .i64 0, .slice none 0 0], .int .u64 5, .int .i64 4] w fun e w' => ∃ y : RB, e = .returned (.tuple #[y.val, .int .i64 0]) ∧ y.Is w' [false, true, false, true] ∧ y.Fr w.heap.size ∧ Keeps w w' := by
  have h := put_ok RB.zero [] 5 4 4 w rfl (RB.zero_is w) (by decide) (by decide) (by decide)
  rw [show [] ++ numBits 5 4 = [false, true, false, true] by decide] at h
  exact h
theorem begun_put2 (x : RB) (w : World) (hx : x.Is w [false, true, false, true]) : Calls Try.prog 21 #[x.val, .int .u64 1, .int .i64 1] w fun e w' => ∃ y : RB, e = .returned (.tuple #[y.val, .int .i64 0]) ∧ y.Is w' [false, true, false, true, true] ∧ y.Fr w.heap.size ∧ Keeps w w' := by
  have h := put_ok x _ 1 1 1 w rfl hx (by decide) (by decide) (by decide)
  rw [show [false, true, false, true] ++ numBits 1 1 = [false, true, false, true, true] by decide] at h
  exact h
theorem begun_get (x : RB) (w : World) (hx : x.Is w [false, true, false, true, true]) : Calls Try.prog 23 #[x.val, .int .i64 1, .int .i64 3] w fun e w' => e = .returned (.tuple #[.int .u64 5, .int .i64 0]) ∧ Keeps w w' := by
  have h := get_ok x _ 1 3 1 3 w rfl rfl hx (by decide) (by decide)
  rw [show getTo [false, true, false, true, true] 1 3 = 5 by decide] at h
  exact h
theorem begun_text (x : RB) (w : World) (hx : x.Is w [false, true, false, true, true]) : Calls Try.prog 29 #[x.val] w fun e w' => e = .returned (.string ⟨#[48, 49, 48, 49, 49]⟩) ∧ Keeps w w' := by
  have h := text_any x w hx.isIn
  rw [listOf_is hx] at h
  exact h

set_option maxHeartbeats 2000000 in
set_option maxRecDepth 100000 in
theorem begun1_any (w : World) :
    Calls Try.prog 25 #[] w fun e w' => e = .returned (.bool true) ∧ Keeps w w' := by
  have HK := Lib.hid (Keeps.refl w)
  go_enter Try.func25, Try.ntmps25
  go_wp2_with fail
  with_reducible refine (begun_put1 _).mono ?_
  rintro e w1 ⟨y, rfl, hy, -, hk1⟩
  obtain ⟨n1, a1, len1, cap1, l1⟩ := y
  have HY1 := Lib.hid hy
  clear hy
  have hkk := hk1
  replace HK := Lib.hid (HK.out.trans hkk)
  clear hkk hk1
  go_wp2_with fail
  with_reducible refine (begun_put2 ⟨n1, a1, len1, cap1, l1⟩ _ (by exact HY1.out.keeps ((Keeps.refl _).alloc _))).mono ?_
  rintro e w2 ⟨y, rfl, hy, -, hk2⟩
  obtain ⟨n2, a2, len2, cap2, l2⟩ := y
  have HY2 := Lib.hid hy
  clear hy
  have hkk := ((Keeps.refl w1).alloc (.cells #[.int .i64 n1, .slice a1 len1 cap1] 32)).trans hk2
  have HC := Lib.hid ((Box.new w1 32 #[.int .i64 n1, .slice a1 len1 cap1]).keeps hk2)
  replace HK := Lib.hid (HK.out.trans hkk)
  replace HY1 := Lib.hid (HY1.out.keeps hkk)
  clear hkk hk2
  have hc0 := HC.out.cell 0 _ rfl
  have hc1 := HC.out.cell 1 _ rfl
  have hcl := HC.out.lt
  go_wp2_with fail
  with_reducible refine (begun_get ⟨n2, a2, len2, cap2, l2⟩ _ (by exact HY2.out.keeps ((Keeps.refl _).alloc _))).mono ?_
  rintro e w3 ⟨rfl, hk3⟩
  clear hc0 hc1 hcl
  have hkk := ((Keeps.refl w2).alloc (.cells #[.int .i64 n2, .slice a2 len2 cap2] 32)).trans hk3
  have HD := Lib.hid ((Box.new w2 32 #[.int .i64 n2, .slice a2 len2 cap2]).keeps hk3)
  replace HK := Lib.hid (HK.out.trans hkk)
  replace HC := Lib.hid (HC.out.keeps hkk)
  replace HY1 := Lib.hid (HY1.out.keeps hkk)
  replace HY2 := Lib.hid (HY2.out.keeps hkk)
  clear hkk hk3
  have hc0 := HC.out.cell 0 _ rfl
  have hc1 := HC.out.cell 1 _ rfl
  have hcl := HC.out.lt
  have hd0 := HD.out.cell 0 _ rfl
  have hd1 := HD.out.cell 1 _ rfl
  have hdl := HD.out.lt
  go_wp2_with fail
  with_reducible refine (begun_text ⟨n2, a2, len2, cap2, l2⟩ _ (by exact HY2.out)).mono ?_
  rintro e w4 ⟨rfl, hk4⟩
  clear hc0 hc1 hcl hd0 hd1 hdl
  have hkk := hk4
  replace HK := Lib.hid (HK.out.trans hkk)
  replace HC := Lib.hid (HC.out.keeps hkk)
  replace HD := Lib.hid (HD.out.keeps hkk)
  replace HY1 := Lib.hid (HY1.out.keeps hkk)
  replace HY2 := Lib.hid (HY2.out.keeps hkk)
  clear hkk hk4
  have hc0 := HC.out.cell 0 _ rfl
  have hc1 := HC.out.cell 1 _ rfl
  have hcl := HC.out.lt
  have hd0 := HD.out.cell 0 _ rfl
  have hd1 := HD.out.cell 1 _ rfl
  have hdl := HD.out.lt
  go_wp2_with fail
  go_ret
  exact ⟨rfl, HK.out⟩

set_option maxHeartbeats 2000000 in
set_option maxRecDepth 100000 in
theorem bitsPuts_any (x : RB) (v : Nat) (wv av : Int) (w : World) (hx : x.In w) (hv : v < 18446744073709551616) (hb1 : -9223372036854775808 ≤ av) (hb2 : av ≤ 9223372036854775807) :
    Calls Try.prog 5 #[x.val, .int .u64 v, .int .i64 wv, .int .i64 av] w fun e w' => e = .returned (.bool true) ∧ Keeps w w' := by
  have HX := Lib.hid hx
  clear hx
  obtain ⟨n, a, len, cap, l⟩ := x
  show Calls Try.prog 5 #[.agg #[.int .i64 n, .slice a len cap], .int .u64 v, .int .i64 wv, .int .i64 av] w _
  have HK := Lib.hid ((Keeps.refl w).alloc (.cells #[.int .i64 n, .slice a len cap] 32))
  have ha := (Box.new w 32 #[.int .i64 n, .slice a len cap])
  have HA := Lib.hid ha
  clear ha
  obtain ⟨r1, hr1⟩ : ∃ r, r = putRes ⟨n, a, len, cap, l⟩ v wv := ⟨_, rfl⟩
  obtain ⟨r2, hr2⟩ : ∃ r, r = getRes ⟨n, a, len, cap, l⟩ av wv := ⟨_, rfl⟩
  have HR1 := Lib.hid hr1
  have HR2 := Lib.hid hr2
  clear hr1 hr2
  go_enter Try.func5, Try.ntmps5
  go_wp2_with fail
  with_reducible refine (put_any ⟨n, a, len, cap, l⟩ v wv _ (by exact HX.out.keeps HK.out) hv).mono ?_
  rw [← HR1.out]
  rintro e w1 ⟨y, rfl, hy, -, hk1⟩
  obtain ⟨n1, a1, len1, cap1, l1⟩ := y
  have HY1 := Lib.hid hy
  clear hy
  have hkk := hk1
  replace HK := Lib.hid (HK.out.trans hkk)
  replace HA := Lib.hid (HA.out.keeps hkk)
  clear hkk hk1
  have ha0 := HA.out.cell 0 _ rfl
  have ha1 := HA.out.cell 1 _ rfl
  have hal := HA.out.lt
  go_wp2_with fail
  with_reducible refine (rput_any ⟨n, a, len, cap, l⟩ v wv _ (by exact HX.out.keeps (HK.out.alloc _)) hv).mono ?_
  rw [← HR1.out]
  rintro e w2 ⟨y, rfl, hy, -, hk2⟩
  obtain ⟨n2, a2, len2, cap2, l2⟩ := y
  have HY2 := Lib.hid hy
  clear hy
  clear ha0 ha1 hal
  have hkk := ((Keeps.refl w1).alloc (.cells #[.int .i64 n1, .slice a1 len1 cap1] 32)).trans hk2
  have HC := Lib.hid ((Box.new w1 32 #[.int .i64 n1, .slice a1 len1 cap1]).keeps hk2)
  replace HK := Lib.hid (HK.out.trans hkk)
  replace HA := Lib.hid (HA.out.keeps hkk)
  replace HY1 := Lib.hid (HY1.out.keeps hkk)
  clear hkk hk2
  have ha0 := HA.out.cell 0 _ rfl
  have ha1 := HA.out.cell 1 _ rfl
  have hal := HA.out.lt
  have hc0 := HC.out.cell 0 _ rfl
  have hc1 := HC.out.cell 1 _ rfl
  have hcl := HC.out.lt
  go_wp2_with fail
  with_reducible refine (get_any ⟨n, a, len, cap, l⟩ av wv _ (by exact HX.out.keeps (HK.out.alloc _)) hb1 hb2).mono ?_
  rw [← HR2.out]
  rintro e w3 ⟨rfl, hk3⟩
  clear ha0 ha1 hal hc0 hc1 hcl
  have hkk := ((Keeps.refl w2).alloc (.cells #[.int .i64 n2, .slice a2 len2 cap2] 32)).trans hk3
  have HD := Lib.hid ((Box.new w2 32 #[.int .i64 n2, .slice a2 len2 cap2]).keeps hk3)
  replace HK := Lib.hid (HK.out.trans hkk)
  replace HA := Lib.hid (HA.out.keeps hkk)
  replace HC := Lib.hid (HC.out.keeps hkk)
  replace HY1 := Lib.hid (HY1.out.keeps hkk)
  replace HY2 := Lib.hid (HY2.out.keeps hkk)
  clear hkk hk3
  have ha0 := HA.out.cell 0 _ rfl
  have ha1 := HA.out.cell 1 _ rfl
  have hal := HA.out.lt
  have hc0 := HC.out.cell 0 _ rfl
  have hc1 := HC.out.cell 1 _ rfl
  have hcl := HC.out.lt
  have hd0 := HD.out.cell 0 _ rfl
  have hd1 := HD.out.cell 1 _ rfl
  have hdl := HD.out.lt
  go_wp2_with fail
  with_reducible refine (rget_any ⟨n, a, len, cap, l⟩ av wv _ (by exact HX.out.keeps HK.out) hb1 hb2).mono ?_
  rw [← HR2.out]
  rintro e w4 ⟨rfl, hk4⟩
  clear ha0 ha1 hal hc0 hc1 hcl hd0 hd1 hdl
  have hkk := hk4
  replace HK := Lib.hid (HK.out.trans hkk)
  replace HA := Lib.hid (HA.out.keeps hkk)
  replace HC := Lib.hid (HC.out.keeps hkk)
  replace HD := Lib.hid (HD.out.keeps hkk)
  replace HY1 := Lib.hid (HY1.out.keeps hkk)
  replace HY2 := Lib.hid (HY2.out.keeps hkk)
  clear hkk hk4
  have ha0 := HA.out.cell 0 _ rfl
  have ha1 := HA.out.cell 1 _ rfl
  have hal := HA.out.lt
  have hc0 := HC.out.cell 0 _ rfl
  have hc1 := HC.out.cell 1 _ rfl
  have hcl := HC.out.lt
  have hd0 := HD.out.cell 0 _ rfl
  have hd1 := HD.out.cell 1 _ rfl
  have hdl := HD.out.lt
  go_wp2_with fail
  with_reducible refine (begun1_any _).mono ?_
  rintro e w5 ⟨rfl, hk5⟩
  clear ha0 ha1 hal hc0 hc1 hcl hd0 hd1 hdl
  have hkk := hk5
  replace HK := Lib.hid (HK.out.trans hkk)
  replace HA := Lib.hid (HA.out.keeps hkk)
  replace HC := Lib.hid (HC.out.keeps hkk)
  replace HD := Lib.hid (HD.out.keeps hkk)
  replace HY1 := Lib.hid (HY1.out.keeps hkk)
  replace HY2 := Lib.hid (HY2.out.keeps hkk)
  clear hkk hk5
  have ha0 := HA.out.cell 0 _ rfl
  have ha1 := HA.out.cell 1 _ rfl
  have hal := HA.out.lt
  have hc0 := HC.out.cell 0 _ rfl
  have hc1 := HC.out.cell 1 _ rfl
  have hcl := HC.out.lt
  have hd0 := HD.out.cell 0 _ rfl
  have hd1 := HD.out.cell 1 _ rfl
  have hdl := HD.out.lt
  go_wp2_with fail
  with_reducible refine (same_is ⟨n1, a1, len1, cap1, l1⟩ ⟨n2, a2, len2, cap2, l2⟩ r1.1 r1.1 _ (by exact HY1.out) (by exact HY2.out)).mono ?_
  rw [decide_eq_true (rfl : r1.1 = r1.1)]
  rintro e w6 ⟨rfl, hk6⟩
  clear ha0 ha1 hal hc0 hc1 hcl hd0 hd1 hdl
  have hkk := hk6
  replace HK := Lib.hid (HK.out.trans hkk)
  replace HA := Lib.hid (HA.out.keeps hkk)
  replace HC := Lib.hid (HC.out.keeps hkk)
  replace HD := Lib.hid (HD.out.keeps hkk)
  replace HY1 := Lib.hid (HY1.out.keeps hkk)
  replace HY2 := Lib.hid (HY2.out.keeps hkk)
  clear hkk hk6
  have ha0 := HA.out.cell 0 _ rfl
  have ha1 := HA.out.cell 1 _ rfl
  have hal := HA.out.lt
  have hc0 := HC.out.cell 0 _ rfl
  have hc1 := HC.out.cell 1 _ rfl
  have hcl := HC.out.lt
  have hd0 := HD.out.cell 0 _ rfl
  have hd1 := HD.out.cell 1 _ rfl
  have hdl := HD.out.lt
  go_wp2_with fail
  go_ret
  exact ⟨rfl, HK.out⟩
end Go.Proofs.Ytkbdpdcandpfdaa
