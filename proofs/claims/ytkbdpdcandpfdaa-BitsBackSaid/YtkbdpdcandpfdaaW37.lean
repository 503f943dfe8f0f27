/- The walk of BitsTexts. -/
import Derived.Test.YtkbdpdcandpfdaaW34
import Derived.Test.YtkbdpdcandpfdaaW35
import Derived.Test.YtkbdpdcandpfdaaW36
import Derived.Test.YtkbdpdcandpfdaaLater
namespace Go.Proofs.Ytkbdpdcandpfdaa
open Go.RowKit
set_option linter.unusedVariables false
set_option linter.unusedSimpArgs false

theorem rsame_yes (x y : RB) (bs : List Bool) (w : World) (hx : x.Is w bs) (hy : y.Is w bs) :
    Calls Try.prog 26 #[x.val, y.val] w fun e w' => e = .returned (.bool true) ∧ Keeps w w' := by
  have h := same_is x y bs bs w hx hy
  rw [decide_eq_true (rfl : bs = bs)] at h
  exact h
theorem same_self (x : RB) (w : World) (hx : x.In w) :
    Calls Try.prog 31 #[x.val, x.val] w fun e w' => e = .returned (.bool true) ∧ Keeps w w' := by
  have h := same_any x x w hx hx
  rw [sameRes_self] at h
  exact h

set_option maxHeartbeats 2000000 in
set_option maxRecDepth 100000 in
theorem bitsTexts_any (x u : RB) (s : ByteArray) (w : World) (hx : x.In w) (hu : u.In w) (h63 : s.size ≤ 9223372036854775807) :
    Calls Try.prog 6 #[x.val, u.val, .string s] w fun e w' => e = .returned (.bool true) ∧ Keeps w w' := by
  have HX := Lib.hid hx
  have HU := Lib.hid hu
  clear hx hu
  obtain ⟨n, a, len, cap, l⟩ := x
  obtain ⟨m, b, lenu, capu, lu⟩ := u
  show Calls Try.prog 6 #[.agg #[.int .i64 n, .slice a len cap], .agg #[.int .i64 m, .slice b lenu capu], .string s] w _
  have HK := Lib.hid (((Keeps.refl w).alloc (.cells #[.int .i64 n, .slice a len cap] 32)).alloc (.cells #[.int .i64 m, .slice b lenu capu] 32))
  have ha := ((Box.new w 32 #[.int .i64 n, .slice a len cap]).next (.cells #[.int .i64 m, .slice b lenu capu] 32))
  have HA := Lib.hid ha
  clear ha
  have hb := (Box.new (w.alloc (.cells #[.int .i64 n, .slice a len cap] 32)) 32 #[.int .i64 m, .slice b lenu capu])
  rw [World.size_alloc] at hb
  have HB := Lib.hid hb
  clear hb
  obtain ⟨r1, hr1⟩ : ∃ r, r = parseRes s := ⟨_, rfl⟩
  have HR1 := Lib.hid hr1
  clear hr1
  go_enter Try.func6, Try.ntmps6
  go_wp2_with fail
  with_reducible refine (parse_any s _ h63).mono ?_
  rw [← HR1.out]
  rintro e w1 ⟨y, rfl, hy, -, hk1⟩
  obtain ⟨n1, a1, len1, cap1, l1⟩ := y
  have HY1 := Lib.hid hy
  clear hy
  have hkk := hk1
  replace HK := Lib.hid (HK.out.trans hkk)
  replace HA := Lib.hid (HA.out.keeps hkk)
  replace HB := Lib.hid (HB.out.keeps hkk)
  clear hkk hk1
  have ha0 := HA.out.cell 0 _ rfl
  have ha1 := HA.out.cell 1 _ rfl
  have hal := HA.out.lt
  have hb0 := HB.out.cell 0 _ rfl
  have hb1 := HB.out.cell 1 _ rfl
  have hbl := HB.out.lt
  go_wp2_with fail
  with_reducible refine (rparse_all s _ h63).mono ?_
  rw [← HR1.out]
  rintro e w2 ⟨y, rfl, hy, -, hk2⟩
  obtain ⟨n2, a2, len2, cap2, l2⟩ := y
  have HY2 := Lib.hid hy
  clear hy
  clear ha0 ha1 hal hb0 hb1 hbl
  have hkk := ((Keeps.refl w1).alloc (.cells #[.int .i64 n1, .slice a1 len1 cap1] 32)).trans hk2
  have HC := Lib.hid ((Box.new w1 32 #[.int .i64 n1, .slice a1 len1 cap1]).keeps hk2)
  replace HK := Lib.hid (HK.out.trans hkk)
  replace HA := Lib.hid (HA.out.keeps hkk)
  replace HB := Lib.hid (HB.out.keeps hkk)
  replace HY1 := Lib.hid (HY1.out.keeps hkk)
  clear hkk hk2
  have ha0 := HA.out.cell 0 _ rfl
  have ha1 := HA.out.cell 1 _ rfl
  have hal := HA.out.lt
  have hb0 := HB.out.cell 0 _ rfl
  have hb1 := HB.out.cell 1 _ rfl
  have hbl := HB.out.lt
  have hc0 := HC.out.cell 0 _ rfl
  have hc1 := HC.out.cell 1 _ rfl
  have hcl := HC.out.lt
  clear ha0 ha1 hal hb0 hb1 hbl hc0 hc1 hcl
  have HCA := Lib.hid (HC.out.next (.cells #[.int .i64 n2, .slice a2 len2 cap2] 32))
  have HDA := Lib.hid (Box.new w2 32 #[.int .i64 n2, .slice a2 len2 cap2])
  have HAA := Lib.hid (HA.out.next (.cells #[.int .i64 n2, .slice a2 len2 cap2] 32))
  have HBA := Lib.hid (HB.out.next (.cells #[.int .i64 n2, .slice a2 len2 cap2] 32))
  have HKA := Lib.hid (HK.out.alloc (.cells #[.int .i64 n2, .slice a2 len2 cap2] 32))
  have HY1A := Lib.hid (HY1.out.keeps ((Keeps.refl w2).alloc (.cells #[.int .i64 n2, .slice a2 len2 cap2] 32)))
  have HY2A := Lib.hid (HY2.out.keeps ((Keeps.refl w2).alloc (.cells #[.int .i64 n2, .slice a2 len2 cap2] 32)))
  clear HA HB HC HK HY1 HY2
  go_wp2_with fail
  have c1 := HAA.out.later 0 _ rfl
  have c2 := HAA.out.later 1 _ rfl
  have c3 := HBA.out.later 0 _ rfl
  have c4 := HBA.out.later 1 _ rfl
  have c5 := HCA.out.later 0 _ rfl
  have c6 := HCA.out.later 1 _ rfl
  have c7 := HDA.out.later 0 _ rfl
  have c8 := HDA.out.later 1 _ rfl
  refine wp_region_later (by kernel_rfl) (by kernel_rfl) ?_
  repeat (go_big_quiet_step (first
    | (go_at_call 25; exact Later.calls _ (begun1_any _))
    | (go_at_call 29; exact Later.calls _ (text_any ⟨n, a, len, cap, l⟩ _ (HX.out.keeps (HKA.out.trans (Later.keeps _)))))
    | (go_at_call 30; exact Later.calls _ (rtext_any ⟨n, a, len, cap, l⟩ _ (HX.out.keeps (HKA.out.trans (Later.keeps _)))))
    | (go_at_call 26; with_reducible exact Later.calls _ (rsame_yes ⟨n1, a1, len1, cap1, l1⟩ ⟨n2, a2, len2, cap2, l2⟩ r1.1 _ (HY1A.out.keeps (Later.keeps _)) (HY2A.out.keeps (Later.keeps _))))
    | (go_at_call 31; with_reducible exact Later.calls _ (same_self ⟨n, a, len, cap, l⟩ _ (HX.out.keeps (HKA.out.trans (Later.keeps _)))))
    | (go_at_call 31; with_reducible exact Later.calls _ (same_any ⟨n, a, len, cap, l⟩ ⟨m, b, lenu, capu, lu⟩ _ (HX.out.keeps (HKA.out.trans (Later.keeps _))) (HU.out.keeps (HKA.out.trans (Later.keeps _)))))
    | (go_at_call 26; with_reducible exact Later.calls _ (rsame_any ⟨n, a, len, cap, l⟩ ⟨m, b, lenu, capu, lu⟩ _ (HX.out.keeps (HKA.out.trans (Later.keeps _))) (HU.out.keeps (HKA.out.trans (Later.keeps _)))))))
  refine wpQuiet_nil ?_
  rintro _ ⟨k, rfl⟩
  have HKK := Lib.hid (HKA.out.trans k.keeps)
  clear c1 c2 c3 c4 c5 c6 c7 c8
  go_wp2_with fail
  go_ret
  exact ⟨rfl, HKK.out⟩
end Go.Proofs.Ytkbdpdcandpfdaa
