/- The walk of PhasorReads. -/
import Derived.Test.YtdjbalaicfienaaP21
import Derived.Test.YtdjbalaicfienaaP12
import Derived.Test.YtdjbalaicfienaaP9
import Derived.Test.YtdjbalaicfienaaW16
namespace Go.Proofs.Ytdjbalaicfienaa
open Go.RowKit
set_option linter.unusedVariables false
set_option linter.unusedSimpArgs false
set_option maxRecDepth 100000 in
set_option maxHeartbeats 4000000 in
theorem phasorReads_any (a : Option Addr) (n cap : Nat) (xs : List Smp) (at_ q : Int) (w : World) (hx : SRow w a n cap xs) (h1 : -9223372036854775808 ≤ q) (h2 : q ≤ 9223372036854775807) :
    Calls Try.prog 11 #[.slice a n cap, .int .i64 at_, .int .i64 q] w fun e w' => e = .returned (.bool true) ∧ Keeps w w' := by
  have HX := Lib.hid hx
  have hlen := hx.len
  have hfew := fewB_iff [⟨a, cap, xs⟩]
  clear hx
  go_enter Try.func11, Try.ntmps11
  go_wp2_with fail
  with_reducible refine (begun3_any _).mono ?_
  rintro e w1 ⟨rfl, hk1⟩
  have HK := Lib.hid hk1
  clear hk1
  go_wp2_with fail
  with_reducible refine (few_any (some ⟨w1.heap.size, 0, none⟩) 1 1 [⟨a, cap, xs⟩] _ (by exact SRs.one (HX.out.keeps (HK.out.alloc _)) (Box.new _ _ _))).mono ?_
  rintro e w2 ⟨rfl, rfl⟩
  cases hf : fewB [⟨a, cap, xs⟩]
  · clear hf hfew
    go_wp2_with fail
    with_reducible refine (begun3_any _).mono ?_
    rintro e w3 ⟨rfl, hk3⟩
    go_wp2_with fail
    go_ret
    exact ⟨rfl, (HK.out.alloc _).trans hk3⟩
  have hn5 : n ≤ 5000 := by
    have := (hfew hf).2 _ (List.mem_singleton.2 rfl)
    simp only at this
    omega
  replace HK := Lib.hid (HK.out.alloc (.cells #[.slice a n cap] 52))
  obtain ⟨W, hW⟩ : ∃ W, W = w1.alloc (.cells #[.slice a n cap] 52) := ⟨_, rfl⟩
  rw [← hW] at HK ⊢
  clear hf hfew hW
  obtain ⟨⟨bs, E⟩, hD⟩ : ∃ M, M = decRes xs at_ q := ⟨_, rfl⟩
  have HD := Lib.hid hD
  obtain ⟨⟨cs, G⟩, hR⟩ : ∃ M, M = recRes xs := ⟨_, rfl⟩
  have HR := Lib.hid hR
  clear hD hR
  go_wp2_with fail
  with_reducible refine (decode_any a n cap xs at_ q _ (by exact HX.out.keeps HK.out) (by omega) h1 h2).mono ?_
  rw [← HD.out]
  rintro e w1 ⟨y1, rfl, hy1, hf1, hk1⟩
  obtain ⟨a1, cap1, rfl⟩ := hy1.shape
  replace HK := Lib.hid (HK.out.trans hk1)
  have HY1 := Lib.hid hy1
  clear hy1 hf1 hk1
  simp only [RB.val]
  have HB1 := Lib.hid (Box.new w1 26 #[.int .i64 bs.length, .slice a1 ((bs.length + 7) / 8) cap1])
  have ht1 := (Keeps.refl w1).alloc (.cells #[.int .i64 bs.length, .slice a1 ((bs.length + 7) / 8) cap1] 26)
  replace HK := Lib.hid (HK.out.trans ht1)
  replace HY1 := Lib.hid (HY1.out.keeps ht1)
  clear ht1
  go_wp2_with fail
  with_reducible refine (rdecode_any a n cap xs at_ q _ (by exact HX.out.keeps HK.out) (by omega) h1 h2).mono ?_
  rw [← HD.out]
  rintro e w2 ⟨y2, rfl, hy2, hf2, hk2⟩
  obtain ⟨a2, cap2, rfl⟩ := hy2.shape
  replace HK := Lib.hid (HK.out.trans hk2)
  have HY2 := Lib.hid hy2
  replace HY1 := Lib.hid (HY1.out.keeps hk2)
  replace HB1 := Lib.hid (HB1.out.keeps hk2)
  clear hy2 hf2 hk2
  simp only [RB.val]
  have HB2 := Lib.hid (Box.new w2 26 #[.int .i64 bs.length, .slice a2 ((bs.length + 7) / 8) cap2])
  have ht2 := (Keeps.refl w2).alloc (.cells #[.int .i64 bs.length, .slice a2 ((bs.length + 7) / 8) cap2] 26)
  replace HK := Lib.hid (HK.out.trans ht2)
  replace HY1 := Lib.hid (HY1.out.keeps ht2)
  replace HY2 := Lib.hid (HY2.out.keeps ht2)
  replace HB1 := Lib.hid (HB1.out.keeps ht2)
  clear ht2
  go_wp2_with fail
  with_reducible refine (receive_any a n cap xs _ (by exact HX.out.keeps HK.out) (by omega)).mono ?_
  rw [← HR.out]
  rintro e w3 ⟨y3, rfl, hy3, hf3, hk3⟩
  obtain ⟨a3, cap3, rfl⟩ := hy3.shape
  replace HK := Lib.hid (HK.out.trans hk3)
  have HY3 := Lib.hid hy3
  replace HY1 := Lib.hid (HY1.out.keeps hk3)
  replace HB1 := Lib.hid (HB1.out.keeps hk3)
  replace HY2 := Lib.hid (HY2.out.keeps hk3)
  replace HB2 := Lib.hid (HB2.out.keeps hk3)
  clear hy3 hf3 hk3
  simp only [RB.val]
  have HB3 := Lib.hid (Box.new w3 26 #[.int .i64 cs.length, .slice a3 ((cs.length + 7) / 8) cap3])
  have ht3 := (Keeps.refl w3).alloc (.cells #[.int .i64 cs.length, .slice a3 ((cs.length + 7) / 8) cap3] 26)
  replace HK := Lib.hid (HK.out.trans ht3)
  replace HY1 := Lib.hid (HY1.out.keeps ht3)
  replace HY2 := Lib.hid (HY2.out.keeps ht3)
  replace HY3 := Lib.hid (HY3.out.keeps ht3)
  replace HB1 := Lib.hid (HB1.out.keeps ht3)
  replace HB2 := Lib.hid (HB2.out.keeps ht3)
  clear ht3
  go_wp2_with fail
  with_reducible refine (rreceive_any a n cap xs _ (by exact HX.out.keeps HK.out) (by omega)).mono ?_
  rw [← HR.out]
  rintro e w4 ⟨y4, rfl, hy4, hf4, hk4⟩
  obtain ⟨a4, cap4, rfl⟩ := hy4.shape
  replace HK := Lib.hid (HK.out.trans hk4)
  have HY4 := Lib.hid hy4
  replace HY1 := Lib.hid (HY1.out.keeps hk4)
  replace HB1 := Lib.hid (HB1.out.keeps hk4)
  replace HY2 := Lib.hid (HY2.out.keeps hk4)
  replace HB2 := Lib.hid (HB2.out.keeps hk4)
  replace HY3 := Lib.hid (HY3.out.keeps hk4)
  replace HB3 := Lib.hid (HB3.out.keeps hk4)
  clear hy4 hf4 hk4
  simp only [RB.val]
  have HB4 := Lib.hid (Box.new w4 26 #[.int .i64 cs.length, .slice a4 ((cs.length + 7) / 8) cap4])
  have ht4 := (Keeps.refl w4).alloc (.cells #[.int .i64 cs.length, .slice a4 ((cs.length + 7) / 8) cap4] 26)
  replace HK := Lib.hid (HK.out.trans ht4)
  replace HY1 := Lib.hid (HY1.out.keeps ht4)
  replace HY2 := Lib.hid (HY2.out.keeps ht4)
  replace HY3 := Lib.hid (HY3.out.keeps ht4)
  replace HY4 := Lib.hid (HY4.out.keeps ht4)
  replace HB1 := Lib.hid (HB1.out.keeps ht4)
  replace HB2 := Lib.hid (HB2.out.keeps ht4)
  replace HB3 := Lib.hid (HB3.out.keeps ht4)
  clear ht4
  have c10 := HB1.out.cell 0 _ rfl
  have c11 := HB1.out.cell 1 _ rfl
  have c20 := HB2.out.cell 0 _ rfl
  have c21 := HB2.out.cell 1 _ rfl
  have c30 := HB3.out.cell 0 _ rfl
  have c31 := HB3.out.cell 1 _ rfl
  have c40 := HB4.out.cell 0 _ rfl
  have c41 := HB4.out.cell 1 _ rfl
  go_wp2_with fail
  with_reducible refine (same_is ⟨bs.length, a1, (bs.length + 7) / 8, cap1, pack bs⟩ ⟨bs.length, a2, (bs.length + 7) / 8, cap2, pack bs⟩ bs bs _ HY1.out HY2.out).mono ?_
  rintro e w5 ⟨rfl, hk5⟩
  rw [decide_eq_true rfl]
  replace HK := Lib.hid (HK.out.trans hk5)
  replace HY1 := Lib.hid (HY1.out.keeps hk5)
  replace HB1 := Lib.hid (HB1.out.keeps hk5)
  replace HY2 := Lib.hid (HY2.out.keeps hk5)
  replace HB2 := Lib.hid (HB2.out.keeps hk5)
  replace HY3 := Lib.hid (HY3.out.keeps hk5)
  replace HB3 := Lib.hid (HB3.out.keeps hk5)
  replace HY4 := Lib.hid (HY4.out.keeps hk5)
  replace HB4 := Lib.hid (HB4.out.keeps hk5)
  clear hk5 c10 c11 c20 c21 c30 c31 c40 c41
  have d10 := HB1.out.cell 0 _ rfl
  have d11 := HB1.out.cell 1 _ rfl
  have d20 := HB2.out.cell 0 _ rfl
  have d21 := HB2.out.cell 1 _ rfl
  have d30 := HB3.out.cell 0 _ rfl
  have d31 := HB3.out.cell 1 _ rfl
  have d40 := HB4.out.cell 0 _ rfl
  have d41 := HB4.out.cell 1 _ rfl
  go_wp2_with fail
  with_reducible refine (same_is ⟨cs.length, a3, (cs.length + 7) / 8, cap3, pack cs⟩ ⟨cs.length, a4, (cs.length + 7) / 8, cap4, pack cs⟩ cs cs _ HY3.out HY4.out).mono ?_
  rintro e w6 ⟨rfl, hk6⟩
  rw [decide_eq_true rfl]
  go_wp2_with fail
  go_ret
  exact ⟨rfl, HK.out.trans hk6⟩
end Go.Proofs.Ytdjbalaicfienaa
