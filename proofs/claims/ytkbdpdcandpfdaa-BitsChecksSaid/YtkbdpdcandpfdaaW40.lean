/- The walk of BitsChecks. -/
import Derived.Test.YtkbdpdcandpfdaaW37
import Derived.Test.YtkbdpdcandpfdaaW39
namespace Go.Proofs.Ytkbdpdcandpfdaa
open Go.RowKit
set_option linter.unusedVariables false
set_option linter.unusedSimpArgs false

theorem told_all (x : RB) (most B : Nat) (mv : Int) (w : World) (hmv : mv = most) (hx : x.In w) (hB : Box w B 32 #[.int .i64 x.n, .slice x.a x.len x.cap]) (hm : most ≤ 100000) :
    Calls Try.prog 35 #[.func (.func 64) #[] #[.pointer (some ⟨B, 0, none⟩)], .int .i64 mv] w fun e w' => ∃ v, e = .returned (.tuple #[v, .bool true]) ∧ Own w' w.heap.size 4 v (((listOf x).take most).map Value.bool) ∧ Keeps w w' := by
  subst hmv
  have hl := listOf_len hx
  have hlt := hB.lt
  exact told_any (listOf x) most 64 _ (KeepsOn w.heap.size B) w (by omega) hm (enters_of Try.func64 (by kernel_rfl) rfl)
    (fun a b h => Below.on h (Nat.le_refl _) hlt (Below.size h)) (all_stops 3 (by omega) B x w w hx (Keeps.refl w) hB)
theorem Bools.cut {w : World} {a : Option Addr} {n cap : Nat} {bs : List Bool} (h : Bools w (.slice a n cap) bs) (m : Nat) (hm : m ≤ bs.length) : Bools w (.slice a m cap) (bs.take m) := by
  obtain ⟨a', cap', he, h1, h2, h3⟩ := h.shape
  simp only [Value.slice.injEq] at he
  obtain ⟨rfl, rfl, rfl⟩ := he
  have hl : (bs.take m).length = m := by rw [List.length_take]; omega
  refine ⟨a, cap, by rw [hl], by omega, h2, by rw [List.length_map, hl], fun i hi => ?_⟩
  rw [hl] at hi
  obtain ⟨b, off, hab, hc⟩ := h3.2 i (by omega)
  refine ⟨b, off, hab, hc.trans ?_⟩
  simp [List.getElem?_take, hi]
theorem eqBools_yes (u v : Value) (bs : List Bool) (w : World) (hu : Bools w u bs) (hv : Bools w v bs) :
    Calls Try.prog 40 #[u, v] w fun e w' => e = .returned (.bool true) ∧ Keeps w w' := by
  have h := eqBools_any u v bs bs w hu hv
  rw [decide_eq_true (rfl : bs = bs)] at h
  exact h

set_option maxHeartbeats 4000000 in
set_option maxRecDepth 100000 in
theorem bitsChecks_any (x : RB) (v : Value) (bs : List Bool) (most : Nat) (w : World) (hx : x.In w) (hl : Bools w v bs) (hmost : most < 256) :
    Calls Try.prog 7 #[x.val, v, .int .u8 most] w fun e w' => e = .returned (.bool true) ∧ Keeps w w' := by
  have HX := Lib.hid hx
  have HLB := Lib.hid hl
  have hlen := listOf_len hx
  obtain ⟨L, hL⟩ : ∃ L, L = listOf x := ⟨_, rfl⟩
  have HL := Lib.hid hL
  rw [← hL] at hlen
  clear hx hl hL
  obtain ⟨n, a, len, cap, l⟩ := x
  obtain ⟨ba, bcap, rfl, hbc, hbm, -⟩ := HLB.out.shape
  show Calls Try.prog 7 #[.agg #[.int .i64 n, .slice a len cap], .slice ba bs.length bcap, .int .u8 most] w _
  have HK := Lib.hid ((Keeps.refl w).alloc (.cells #[.int .i64 n, .slice a len cap] 32))
  have ha := (Box.new w 32 #[.int .i64 n, .slice a len cap])
  have HA := Lib.hid ha
  clear ha
  obtain ⟨r1, hr1⟩ : ∃ r, r = ofRes bs := ⟨_, rfl⟩
  have HR1 := Lib.hid hr1
  clear hr1
  go_enter Try.func7, Try.ntmps7
  go_wp2_with fail
  with_reducible refine (of_any _ bs _ (by exact HLB.out.keeps HK.out)).mono ?_
  rw [← HR1.out]
  rintro e w1 ⟨y, rfl, hy, -, hk1⟩
  obtain ⟨n1, a1, len1, cap1, l1⟩ := y
  have HY1 := Lib.hid hy
  clear hy
  have hkk := hk1
  replace HK := Lib.hid (HK.out.trans hkk)
  replace HA := Lib.hid (HA.out.keeps hkk)
  clear hkk hk1
  have ha0 := HA.out.cell 0 _ rfl
  have ha1 := HA.out.cell 1 _ rfl
  have hal := HA.out.lt
  go_wp2_with fail
  with_reducible refine (rof_any _ bs _ (by exact HLB.out.keeps (HK.out.alloc _))).mono ?_
  rw [← HR1.out]
  rintro e w2 ⟨y, rfl, hy, -, hk2⟩
  obtain ⟨n2, a2, len2, cap2, l2⟩ := y
  have HY2 := Lib.hid hy
  clear hy
  clear ha0 ha1 hal
  have hkk := ((Keeps.refl w1).alloc (.cells #[.int .i64 n1, .slice a1 len1 cap1] 32)).trans hk2
  have HC := Lib.hid ((Box.new w1 32 #[.int .i64 n1, .slice a1 len1 cap1]).keeps hk2)
  replace HK := Lib.hid (HK.out.trans hkk)
  replace HA := Lib.hid (HA.out.keeps hkk)
  replace HY1 := Lib.hid (HY1.out.keeps hkk)
  clear hkk hk2
  have ha0 := HA.out.cell 0 _ rfl
  have ha1 := HA.out.cell 1 _ rfl
  have hal := HA.out.lt
  have hc0 := HC.out.cell 0 _ rfl
  have hc1 := HC.out.cell 1 _ rfl
  have hcl := HC.out.lt
  go_wp2_with fail
  with_reducible refine (list_any ⟨n, a, len, cap, l⟩ _ (by exact HX.out.keeps (HK.out.alloc _))).mono ?_
  rw [← HL.out]
  rintro e w3 ⟨lv, rfl, hown, hk3⟩
  obtain ⟨la, lcap, rfl, hlc, hlm, hlr⟩ := hown.bools.shape
  have HLV := Lib.hid hown.bools
  clear hown hlr
  clear ha0 ha1 hal hc0 hc1 hcl
  have hkk := ((Keeps.refl w2).alloc (.cells #[.int .i64 n2, .slice a2 len2 cap2] 32)).trans hk3
  have HD := Lib.hid ((Box.new w2 32 #[.int .i64 n2, .slice a2 len2 cap2]).keeps hk3)
  replace HK := Lib.hid (HK.out.trans hkk)
  replace HA := Lib.hid (HA.out.keeps hkk)
  replace HC := Lib.hid (HC.out.keeps hkk)
  replace HY1 := Lib.hid (HY1.out.keeps hkk)
  replace HY2 := Lib.hid (HY2.out.keeps hkk)
  clear hkk hk3
  have ha0 := HA.out.cell 0 _ rfl
  have ha1 := HA.out.cell 1 _ rfl
  have hal := HA.out.lt
  have hc0 := HC.out.cell 0 _ rfl
  have hc1 := HC.out.cell 1 _ rfl
  have hcl := HC.out.lt
  have hd0 := HD.out.cell 0 _ rfl
  have hd1 := HD.out.cell 1 _ rfl
  have hdl := HD.out.lt
  go_wp2_with fail
  with_reducible refine (all_any ⟨n, a, len, cap, l⟩ _).mono ?_
  rintro e u4 ⟨rfl, rfl⟩
  go_wp2_with fail
  with_reducible refine (told_all ⟨n, a, len, cap, l⟩ 9999 w3.heap.size _ _ (by omega) (by exact HX.out.keeps (HK.out.alloc _)) (by exact Box.new _ _ _) (by omega)).mono ?_
  rw [← HL.out]
  rintro e w4 ⟨pv, rfl, hown, hk4⟩
  have HPV := Lib.hid hown.bools
  clear hown
  clear ha0 ha1 hal hc0 hc1 hcl hd0 hd1 hdl
  have hkk := ((Keeps.refl w3).alloc (.cells #[.int .i64 n, .slice a len cap] 32)).trans hk4
  replace HK := Lib.hid (HK.out.trans hkk)
  replace HA := Lib.hid (HA.out.keeps hkk)
  replace HC := Lib.hid (HC.out.keeps hkk)
  replace HD := Lib.hid (HD.out.keeps hkk)
  replace HY1 := Lib.hid (HY1.out.keeps hkk)
  replace HY2 := Lib.hid (HY2.out.keeps hkk)
  replace HLV := Lib.hid (HLV.out.keeps hkk)
  clear hkk hk4
  have ha0 := HA.out.cell 0 _ rfl
  have ha1 := HA.out.cell 1 _ rfl
  have hal := HA.out.lt
  have hc0 := HC.out.cell 0 _ rfl
  have hc1 := HC.out.cell 1 _ rfl
  have hcl := HC.out.lt
  have hd0 := HD.out.cell 0 _ rfl
  have hd1 := HD.out.cell 1 _ rfl
  have hdl := HD.out.lt
  go_wp2_with fail
  with_reducible refine (all_any ⟨n, a, len, cap, l⟩ _).mono ?_
  rintro e u5 ⟨rfl, rfl⟩
  go_wp2_with fail
  with_reducible refine (told_all ⟨n, a, len, cap, l⟩ most w4.heap.size _ _ (by omega) (by exact HX.out.keeps (HK.out.alloc _)) (by exact Box.new _ _ _) (by omega)).mono ?_
  rw [← HL.out]
  rintro e w5 ⟨qv, rfl, hown, hk5⟩
  have HQV := Lib.hid hown.bools
  clear hown
  clear ha0 ha1 hal hc0 hc1 hcl hd0 hd1 hdl
  have hkk := ((Keeps.refl w4).alloc (.cells #[.int .i64 n, .slice a len cap] 32)).trans hk5
  replace HK := Lib.hid (HK.out.trans hkk)
  replace HA := Lib.hid (HA.out.keeps hkk)
  replace HC := Lib.hid (HC.out.keeps hkk)
  replace HD := Lib.hid (HD.out.keeps hkk)
  replace HY1 := Lib.hid (HY1.out.keeps hkk)
  replace HY2 := Lib.hid (HY2.out.keeps hkk)
  replace HLV := Lib.hid (HLV.out.keeps hkk)
  replace HPV := Lib.hid (HPV.out.keeps hkk)
  clear hkk hk5
  have ha0 := HA.out.cell 0 _ rfl
  have ha1 := HA.out.cell 1 _ rfl
  have hal := HA.out.lt
  have hc0 := HC.out.cell 0 _ rfl
  have hc1 := HC.out.cell 1 _ rfl
  have hcl := HC.out.lt
  have hd0 := HD.out.cell 0 _ rfl
  have hd1 := HD.out.cell 1 _ rfl
  have hdl := HD.out.lt
  clear ha0 ha1 hal hc0 hc1 hcl hd0 hd1 hdl
  have c1 := HA.out.later 0 _ rfl
  have c2 := HA.out.later 1 _ rfl
  have c5 := HC.out.later 0 _ rfl
  have c6 := HC.out.later 1 _ rfl
  have c7 := HD.out.later 0 _ rfl
  have c8 := HD.out.later 1 _ rfl
  obtain ⟨m, hm⟩ : ∃ m, m = min L.length most := ⟨_, rfl⟩
  have hmL : m ≤ L.length := by omega
  have hmin : min (L.length : Int) (most : Int) = (m : Int) := by omega
  have HM := Lib.hid (show L.take most = L.take m by rw [hm]; exact (List.take_eq_take_min.trans (by rw [Nat.min_comm])))
  have HT1 := Lib.hid (show L.take 9999 = L from List.take_of_length_le (by omega))
  clear hm
  have HPV' : Hid (Bools w5 pv L) := by have h := HPV.out; rw [HT1.out] at h; exact h
  have HQV' : Hid (Bools w5 qv (L.take m)) := by have h := HQV.out; rw [HM.out] at h; exact h
  have HLM := Lib.hid (HLV.out.cut m hmL)
  go_wp2_with fail
  refine wp_region_later (by kernel_rfl) (by kernel_rfl) ?_
  repeat (go_big_quiet_step (first
    | (go_at_call 25; exact Later.calls _ (begun1_any _))
    | (go_at_call 37; exact Later.calls _ (check_any ⟨n, a, len, cap, l⟩ _ (HX.out.keeps (HK.out.trans (Later.keeps _)))))
    | (go_at_call 18; exact Later.calls _ (rcheck_any ⟨n, a, len, cap, l⟩ _ (HX.out.keeps (HK.out.trans (Later.keeps _)))))
    | (go_at_call 38; exact Later.calls _ (ones_any ⟨n, a, len, cap, l⟩ _ (HX.out.keeps (HK.out.trans (Later.keeps _)))))
    | (go_at_call 39; exact Later.calls _ (rones_any ⟨n, a, len, cap, l⟩ _ (HX.out.keeps (HK.out.trans (Later.keeps _)))))
    | (go_at_call 26; with_reducible exact Later.calls _ (rsame_yes ⟨n1, a1, len1, cap1, l1⟩ ⟨n2, a2, len2, cap2, l2⟩ r1.1 _ (HY1.out.keeps (Later.keeps _)) (HY2.out.keeps (Later.keeps _))))
    | (go_at_call 40; with_reducible exact Later.calls _ (eqBools_yes pv _ L _ (HPV'.out.keeps (Later.keeps _)) (HLV.out.keeps (Later.keeps _))))
    | (go_at_call 40; with_reducible exact Later.calls _ (eqBools_yes qv _ (L.take m) _ (HQV'.out.keeps (Later.keeps _)) (HLM.out.keeps (Later.keeps _))))))
  refine wpQuiet_nil ?_
  rintro _ ⟨k, rfl⟩
  have HKK := Lib.hid (HK.out.trans k.keeps)
  clear c1 c2 c5 c6 c7 c8
  go_wp2_with fail
  go_ret
  exact ⟨rfl, HKK.out⟩
end Go.Proofs.Ytkbdpdcandpfdaa
