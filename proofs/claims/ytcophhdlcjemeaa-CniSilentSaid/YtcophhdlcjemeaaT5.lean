/- The walks of layer 20, 2: a signal within the span passes as it is. -/
import Derived.Test.YtcophhdlcjemeaaT4
import Derived.Test.YtcophhdlcjemeaaT5a
namespace Go.Proofs.Ytcophhdlcjemeaa
open Go.RowKit
set_option linter.unusedVariables false
set_option linter.unusedSimpArgs false
set_option maxRecDepth 100000 in
set_option maxHeartbeats 1000000 in
theorem clone_any (x : RB) (w : World) (hx : x.In w) (hl2 : x.len ≤ 512) :
    Calls Try.prog 60 #[.slice x.a x.len x.cap] w fun e w' => ∃ a cap, e = .returned (.slice a x.len cap) ∧ RB.In ⟨x.n, a, x.len, cap, x.l⟩ w' ∧ RB.Fr ⟨x.n, a, x.len, cap, x.l⟩ w.heap.size ∧ Keeps w w' := by
  by_cases h0 : 1 ≤ x.len
  · exact cloneU8 x w hx h0 hl2
  have HI := Lib.hid hx
  have hll := hx.row.1
  clear hx
  obtain ⟨n, a, len, cap, l⟩ := x
  simp only at hll h0 HI hl2 ⊢
  have hlen : len = 0 := by omega
  subst hlen
  have hl0 : l = [] := List.eq_nil_of_length_eq_zero hll
  subst hl0
  have hn1 := HI.out.n1
  have hn2 := HI.out.n2
  simp only at hn1 hn2
  cases a with
  | none =>
    have hnil : ∀ w : World, (binOp .eql 36 (.slice none 0 cap) (.slice none 0 0)).run Try.prog w = .ok (.bool true) w := fun w => by kernel_rfl
    show Calls Try.prog 60 #[.slice none 0 cap] w _
    go_enter Try.func60, Try.ntmps60
    go_wp2_with fail
    go_ret
    exact ⟨none, 0, rfl, ⟨hn1, hn2, by simp, by simp, HI.out.byte, ⟨rfl, fun i h => absurd h (Nat.not_lt_zero _)⟩⟩, (fun x (hx : none = some x) => by cases hx), Keeps.refl w⟩
  | some x =>
    have hnil : ∀ w : World, (binOp .eql 36 (.slice (some x) 0 cap) (.slice none 0 0)).run Try.prog w = .ok (.bool false) w := fun w => by kernel_rfl
    show Calls Try.prog 60 #[.slice (some x) 0 cap] w _
    go_enter Try.func60, Try.ntmps60
    go_wp2_with fail
    go_ret
    exact ⟨_, 0, rfl, ⟨hn1, hn2, by simp, by simp, HI.out.byte, ⟨rfl, fun i h => absurd h (Nat.not_lt_zero _)⟩⟩, (fun x (hx : some _ = some x) => by cases hx; exact Nat.le_refl _), (Keeps.refl w).alloc _⟩
set_option maxRecDepth 100000 in
set_option maxHeartbeats 1000000 in
theorem pass_in (o1 o2 : Int) (s : RSig) (w : World) (hs : s.b.In w) (hok : sigOk s = true) (hl2 : s.b.len ≤ 512) (hop : spanOk o1 o2 = true) (hme : spanMeets s.f s.t o1 o2 = true) (hin : spanIn s.f s.t o1 o2 = true) :
    Calls Try.prog 47 #[.agg #[.int .i64 o1, .int .i64 o2], s.val] w fun e w' => (∃ a cap, e = .returned (.tuple #[RSig.val ⟨s.fr, s.f, s.t, s.lv, ⟨s.b.n, a, s.b.len, cap, s.b.l⟩⟩, .bool true]) ∧ RB.In ⟨s.b.n, a, s.b.len, cap, s.b.l⟩ w') ∧ Keeps w w' := by
  have HI := Lib.hid hs
  have HC1 : Hid (∀ w, s.b.In w → Calls Try.prog 74 #[s.val] w fun e w' => e = .returned (.int .i64 0) ∧ Keeps w w') := Lib.hid (fun w h => by have := sigcheck_any s w h; rw [hok] at this; exact this)
  have HC2 : Hid (∀ w, Calls Try.prog 75 #[.agg #[.int .i64 o1, .int .i64 o2]] w fun e w' => e = .returned (.int .i64 0) ∧ Keeps w w') := Lib.hid (fun w => by have := scheck_any o1 o2 w; rw [hop] at this; exact this)
  have HC3 : Hid (∀ w, Calls Try.prog 76 #[.agg #[.int .i64 s.f, .int .i64 s.t], .agg #[.int .i64 o1, .int .i64 o2]] w fun e w' => e = .returned (.bool true) ∧ Keeps w w') := Lib.hid (fun w => by have := meets_any s.f s.t o1 o2 w; rw [hme] at this; exact this)
  have HC4 : Hid (∀ w, Calls Try.prog 77 #[.agg #[.int .i64 s.f, .int .i64 s.t], .agg #[.int .i64 o1, .int .i64 o2]] w fun e w' => e = .returned (.bool true) ∧ Keeps w w') := Lib.hid (fun w => by have := within6_any s.f s.t o1 o2 w; rw [hin] at this; exact this)
  clear hs hok hop hme hin
  obtain ⟨fr, f, t, lv, n, a, len, cap, l⟩ := s
  simp only at HI HC3 HC4 hl2
  have HK := Lib.hid (((Keeps.refl w).alloc (.cells #[.int .i64 o1, .int .i64 o2] 30)).alloc (.cells #[.int .i64 fr, .int .i64 f, .int .i64 t, .int .i64 lv, .int .i64 n, .slice a len cap] 73))
  have HO := Lib.hid ((Box.new w 30 #[.int .i64 o1, .int .i64 o2]).next (.cells #[.int .i64 fr, .int .i64 f, .int .i64 t, .int .i64 lv, .int .i64 n, .slice a len cap] 73))
  have hb := Box.new (w.alloc (.cells #[.int .i64 o1, .int .i64 o2] 30)) 73 #[.int .i64 fr, .int .i64 f, .int .i64 t, .int .i64 lv, .int .i64 n, .slice a len cap]
  rw [World.size_alloc] at hb
  have HS := Lib.hid hb
  clear hb
  show Calls Try.prog 47 #[.agg #[.int .i64 o1, .int .i64 o2], .agg #[.int .i64 fr, .int .i64 f, .int .i64 t, .int .i64 lv, .int .i64 n, .slice a len cap]] w _
  go_enter Try.func47, Try.ntmps47
  go_wp2_with fail
  have hbz := Box.new ((w.alloc (.cells #[.int .i64 o1, .int .i64 o2] 30)).alloc (.cells #[.int .i64 fr, .int .i64 f, .int .i64 t, .int .i64 lv, .int .i64 n, .slice a len cap] 73)) 73 #[.int .i64 0, .int .i64 0, .int .i64 0, .int .i64 0, .int .i64 0, .slice none 0 0]
  rw [World.size_alloc, World.size_alloc] at hbz
  have HZ := Lib.hid hbz
  clear hbz
  replace HK := Lib.hid (HK.out.alloc (.cells #[.int .i64 0, .int .i64 0, .int .i64 0, .int .i64 0, .int .i64 0, .slice none 0 0] 73))
  replace HO := Lib.hid (HO.out.next (.cells #[.int .i64 0, .int .i64 0, .int .i64 0, .int .i64 0, .int .i64 0, .slice none 0 0] 73))
  replace HS := Lib.hid (HS.out.next (.cells #[.int .i64 0, .int .i64 0, .int .i64 0, .int .i64 0, .int .i64 0, .slice none 0 0] 73))
  with_reducible refine (HC1.out _ (by exact HI.out.keeps HK.out)).mono ?_
  rintro e w1 ⟨rfl, hk1⟩
  replace HO := Lib.hid (HO.out.keeps hk1)
  replace HS := Lib.hid (HS.out.keeps hk1)
  replace HZ := Lib.hid (HZ.out.keeps hk1)
  replace HK := Lib.hid (HK.out.trans hk1)
  clear hk1
  have o0 := HO.out.cell 0 _ rfl
  have o1c := HO.out.cell 1 _ rfl
  have ol := HO.out.lt
  have s0 := HS.out.cell 0 _ rfl
  have s1 := HS.out.cell 1 _ rfl
  have s2 := HS.out.cell 2 _ rfl
  have s3 := HS.out.cell 3 _ rfl
  have s4 := HS.out.cell 4 _ rfl
  have s5 := HS.out.cell 5 _ rfl
  have sf := HS.out.frozen
  have sl := HS.out.lt
  have z0 := HZ.out.cell 0 _ rfl
  have z1 := HZ.out.cell 1 _ rfl
  have z2 := HZ.out.cell 2 _ rfl
  have z3 := HZ.out.cell 3 _ rfl
  have z4 := HZ.out.cell 4 _ rfl
  have z5 := HZ.out.cell 5 _ rfl
  have zf := HZ.out.frozen
  have zl := HZ.out.lt
  go_wp2_with fail
  with_reducible refine (HC2.out _).mono ?_
  rintro e w1 ⟨rfl, hk1⟩
  replace HO := Lib.hid (HO.out.keeps hk1)
  replace HS := Lib.hid (HS.out.keeps hk1)
  replace HZ := Lib.hid (HZ.out.keeps hk1)
  replace HK := Lib.hid (HK.out.trans hk1)
  clear hk1
  clear z0 z1 z2 z3 z4 z5 zf zl o0 o1c ol s0 s1 s2 s3 s4 s5 sf sl
  have o0 := HO.out.cell 0 _ rfl
  have o1c := HO.out.cell 1 _ rfl
  have ol := HO.out.lt
  have s0 := HS.out.cell 0 _ rfl
  have s1 := HS.out.cell 1 _ rfl
  have s2 := HS.out.cell 2 _ rfl
  have s3 := HS.out.cell 3 _ rfl
  have s4 := HS.out.cell 4 _ rfl
  have s5 := HS.out.cell 5 _ rfl
  have sf := HS.out.frozen
  have sl := HS.out.lt
  have z0 := HZ.out.cell 0 _ rfl
  have z1 := HZ.out.cell 1 _ rfl
  have z2 := HZ.out.cell 2 _ rfl
  have z3 := HZ.out.cell 3 _ rfl
  have z4 := HZ.out.cell 4 _ rfl
  have z5 := HZ.out.cell 5 _ rfl
  have zf := HZ.out.frozen
  have zl := HZ.out.lt
  go_wp2_with fail
  with_reducible refine (HC3.out _).mono ?_
  rintro e w1 ⟨rfl, hk1⟩
  replace HO := Lib.hid (HO.out.keeps hk1)
  replace HS := Lib.hid (HS.out.keeps hk1)
  replace HZ := Lib.hid (HZ.out.keeps hk1)
  replace HK := Lib.hid (HK.out.trans hk1)
  clear hk1
  clear z0 z1 z2 z3 z4 z5 zf zl o0 o1c ol s0 s1 s2 s3 s4 s5 sf sl
  have o0 := HO.out.cell 0 _ rfl
  have o1c := HO.out.cell 1 _ rfl
  have ol := HO.out.lt
  have s0 := HS.out.cell 0 _ rfl
  have s1 := HS.out.cell 1 _ rfl
  have s2 := HS.out.cell 2 _ rfl
  have s3 := HS.out.cell 3 _ rfl
  have s4 := HS.out.cell 4 _ rfl
  have s5 := HS.out.cell 5 _ rfl
  have sf := HS.out.frozen
  have sl := HS.out.lt
  have z0 := HZ.out.cell 0 _ rfl
  have z1 := HZ.out.cell 1 _ rfl
  have z2 := HZ.out.cell 2 _ rfl
  have z3 := HZ.out.cell 3 _ rfl
  have z4 := HZ.out.cell 4 _ rfl
  have z5 := HZ.out.cell 5 _ rfl
  have zf := HZ.out.frozen
  have zl := HZ.out.lt
  go_wp2_with fail
  with_reducible refine (HC4.out _).mono ?_
  rintro e w1 ⟨rfl, hk1⟩
  replace HO := Lib.hid (HO.out.keeps hk1)
  replace HS := Lib.hid (HS.out.keeps hk1)
  replace HZ := Lib.hid (HZ.out.keeps hk1)
  replace HK := Lib.hid (HK.out.trans hk1)
  clear hk1
  clear z0 z1 z2 z3 z4 z5 zf zl o0 o1c ol s0 s1 s2 s3 s4 s5 sf sl
  have o0 := HO.out.cell 0 _ rfl
  have o1c := HO.out.cell 1 _ rfl
  have ol := HO.out.lt
  have s0 := HS.out.cell 0 _ rfl
  have s1 := HS.out.cell 1 _ rfl
  have s2 := HS.out.cell 2 _ rfl
  have s3 := HS.out.cell 3 _ rfl
  have s4 := HS.out.cell 4 _ rfl
  have s5 := HS.out.cell 5 _ rfl
  have sf := HS.out.frozen
  have sl := HS.out.lt
  have z0 := HZ.out.cell 0 _ rfl
  have z1 := HZ.out.cell 1 _ rfl
  have z2 := HZ.out.cell 2 _ rfl
  have z3 := HZ.out.cell 3 _ rfl
  have z4 := HZ.out.cell 4 _ rfl
  have z5 := HZ.out.cell 5 _ rfl
  have zf := HZ.out.frozen
  have zl := HZ.out.lt
  go_wp2_with fail
  have hs2 := HK.out.size
  with_reducible refine (clone_any ⟨n, a, len, cap, l⟩ _ (by exact HI.out.keeps HK.out) hl2).mono ?_
  rintro e w2 ⟨a2, cap2, rfl, hin2, hfr2, hk1⟩
  have HIN := Lib.hid hin2
  have HFR := Lib.hid hfr2
  replace HO := Lib.hid (HO.out.keeps hk1)
  have hs3 : w.heap.size + 1 + 1 < w1.heap.size := zl
  replace HZ := Lib.hid (HZ.out.keeps hk1)
  replace HS := Lib.hid (HS.out.keeps hk1)
  replace HK := Lib.hid (HK.out.trans hk1)
  clear hk1 hin2 hfr2
  clear z0 z1 z2 z3 z4 z5 zf zl o0 o1c ol s0 s1 s2 s3 s4 s5 sf sl
  have o0 := HO.out.cell 0 _ rfl
  have o1c := HO.out.cell 1 _ rfl
  have ol := HO.out.lt
  have s0 := HS.out.cell 0 _ rfl
  have s1 := HS.out.cell 1 _ rfl
  have s2 := HS.out.cell 2 _ rfl
  have s3 := HS.out.cell 3 _ rfl
  have s4 := HS.out.cell 4 _ rfl
  have s5 := HS.out.cell 5 _ rfl
  have sf := HS.out.frozen
  have sl := HS.out.lt
  have z0 := HZ.out.cell 0 _ rfl
  have z1 := HZ.out.cell 1 _ rfl
  have z2 := HZ.out.cell 2 _ rfl
  have z3 := HZ.out.cell 3 _ rfl
  have z4 := HZ.out.cell 4 _ rfl
  have z5 := HZ.out.cell 5 _ rfl
  have zf := HZ.out.frozen
  have zl := HZ.out.lt
  simp only
  go_wp2_with fail
  refine bodyPost_ret (v := .tuple #[.agg #[.int .i64 fr, .int .i64 f, .int .i64 t, .int .i64 lv, .int .i64 n, .slice a2 len cap2], .bool true]) (by simp [results, Try.results47, go_sem, *]) rfl
    ⟨⟨a2, cap2, rfl, ?_⟩, ?_⟩
  · have hne1 : ∀ x, a2 = some x → x.block ≠ w.heap.size + 1 := fun x hx => by have := HFR.out x hx; omega
    have hne2 : ∀ x, a2 = some x → x.block ≠ w.heap.size + 1 + 1 := fun x hx => by have := HFR.out x hx; omega
    repeat (refine RB.In.keepsBut ?_ (KeepsBut.setCell _ _ _ _) (by first | exact hne1 | exact hne2))
    exact HIN.out
  · repeat (first | with_reducible refine Keeps.setCell ?_ (by simp <;> omega) _)
    exact HK.out
end Go.Proofs.Ytcophhdlcjemeaa
