/- The walk of layer 20, 4: the reference's Pass of any signal. -/
import Derived.Test.YtcophhdlcjemeaaT8
import Derived.Test.YtcophhdlcjemeaaA1
import Derived.Test.YtcophhdlcjemeaaT3
namespace Go.Proofs.Ytcophhdlcjemeaa
open Go.RowKit
set_option linter.unusedVariables false
set_option linter.unusedSimpArgs false
set_option maxRecDepth 100000 in
set_option maxHeartbeats 1000000 in
theorem rpass_any (o1 o2 : Int) (s : RSig) (w : World) (hs : s.b.In w) :
    Calls Try.prog 53 #[.agg #[.int .i64 o1, .int .i64 o2], s.val] w (PassPost o1 o2 s w) := by
  have HI := Lib.hid hs
  have HC1 := Lib.hid (fun w h => rsigcheck_any s w h)
  have HC2 := Lib.hid (fun w => rscheck_any o1 o2 w)
  have HC3 := Lib.hid (fun w => rmeets_any s.f s.t o1 o2 w)
  have HC4 := Lib.hid (fun w => rwithin6_any s.f s.t o1 o2 w)
  have HL := Lib.hid (fun (h : sigOk s = true) => sig_len h hs)
  have HP : Hid (passP o1 o2 s = cond (passOk o1 o2 s) (some (cond (spanIn s.f s.t o1 o2) s.p (s.fr, max s.f o1, min s.t o2, s.lv, 0, []))) none) := Lib.hid rfl
  have HPO : Hid (passOk o1 o2 s = (sigOk s && (spanOk o1 o2 && spanMeets s.f s.t o1 o2))) := Lib.hid rfl
  have HME := Lib.hid (fun (h : spanMeets s.f s.t o1 o2 = true) => meets_num h)
  obtain ⟨P, hP⟩ : ∃ P, P = passP o1 o2 s := ⟨_, rfl⟩
  have HRES : Hid (∀ B w' r is, is = P.isSome → r.p = P.getD RSig.zero.p → r.b.In w' → r.b.Fr B → PassRes o1 o2 s B w' r is) := Lib.hid (fun B w' r is h1 h2 h3 h4 => ⟨by rw [h1, hP], by rw [h2, hP], h3, h4⟩)
  rw [← hP] at HP
  clear hP
  obtain ⟨O, hO⟩ : ∃ O, O = sigOk s := ⟨_, rfl⟩
  rw [← hO] at HC1 HL HPO
  have HOK := Lib.hid hO
  obtain ⟨fr, f, t, lv, n, a, len, cap, l⟩ := s
  simp only at HI HC2 HC3 HC4 HP HPO HME HL
  obtain ⟨M, hM⟩ : ∃ M, M = spanMeets f t o1 o2 := ⟨_, rfl⟩
  rw [← hM] at HC3 HPO HME
  obtain ⟨N, hN⟩ : ∃ N, N = spanIn f t o1 o2 := ⟨_, rfl⟩
  rw [← hN] at HC4 HP
  obtain ⟨S, hS⟩ : ∃ S, S = spanOk o1 o2 := ⟨_, rfl⟩
  rw [← hS] at HC2 HPO
  clear hs hO hM hN hS
  have HK := Lib.hid (((Keeps.refl w).alloc (.cells #[.int .i64 o1, .int .i64 o2] 30)).alloc (.cells #[.int .i64 fr, .int .i64 f, .int .i64 t, .int .i64 lv, .int .i64 n, .slice a len cap] 73))
  have HO := Lib.hid ((Box.new w 30 #[.int .i64 o1, .int .i64 o2]).next (.cells #[.int .i64 fr, .int .i64 f, .int .i64 t, .int .i64 lv, .int .i64 n, .slice a len cap] 73))
  have hb := Box.new (w.alloc (.cells #[.int .i64 o1, .int .i64 o2] 30)) 73 #[.int .i64 fr, .int .i64 f, .int .i64 t, .int .i64 lv, .int .i64 n, .slice a len cap]
  rw [World.size_alloc] at hb
  have HS := Lib.hid hb
  clear hb
  show Calls Try.prog 53 #[.agg #[.int .i64 o1, .int .i64 o2], .agg #[.int .i64 fr, .int .i64 f, .int .i64 t, .int .i64 lv, .int .i64 n, .slice a len cap]] w (PassPost o1 o2 ⟨fr, f, t, lv, n, a, len, cap, l⟩ w)
  go_enter Try.func53, Try.ntmps53
  go_wp2_with fail
  have hbz := Box.new ((w.alloc (.cells #[.int .i64 o1, .int .i64 o2] 30)).alloc (.cells #[.int .i64 fr, .int .i64 f, .int .i64 t, .int .i64 lv, .int .i64 n, .slice a len cap] 73)) 73 #[.int .i64 0, .int .i64 0, .int .i64 0, .int .i64 0, .int .i64 0, .slice none 0 0]
  rw [World.size_alloc, World.size_alloc] at hbz
  have HZ := Lib.hid hbz
  clear hbz
  replace HK := Lib.hid (HK.out.alloc (.cells #[.int .i64 0, .int .i64 0, .int .i64 0, .int .i64 0, .int .i64 0, .slice none 0 0] 73))
  replace HO := Lib.hid (HO.out.next (.cells #[.int .i64 0, .int .i64 0, .int .i64 0, .int .i64 0, .int .i64 0, .slice none 0 0] 73))
  replace HS := Lib.hid (HS.out.next (.cells #[.int .i64 0, .int .i64 0, .int .i64 0, .int .i64 0, .int .i64 0, .slice none 0 0] 73))
  with_reducible refine (HC1.out _ (by exact HI.out.keeps HK.out)).mono ?_
  rintro e w1 ⟨rfl, hk1⟩
  replace HO := Lib.hid (HO.out.keeps hk1)
  replace HS := Lib.hid (HS.out.keeps hk1)
  replace HZ := Lib.hid (HZ.out.keeps hk1)
  replace HK := Lib.hid (HK.out.trans hk1)
  clear hk1
  have o0 := HO.out.cell 0 _ rfl
  have o1c := HO.out.cell 1 _ rfl
  have of := HO.out.frozen
  have ol := HO.out.lt
  have s0 := HS.out.cell 0 _ rfl
  have s1 := HS.out.cell 1 _ rfl
  have s2 := HS.out.cell 2 _ rfl
  have s3 := HS.out.cell 3 _ rfl
  have s4 := HS.out.cell 4 _ rfl
  have s5 := HS.out.cell 5 _ rfl
  have sf := HS.out.frozen
  have sl := HS.out.lt
  have z0 := HZ.out.cell 0 _ rfl
  have z1 := HZ.out.cell 1 _ rfl
  have z2 := HZ.out.cell 2 _ rfl
  have z3 := HZ.out.cell 3 _ rfl
  have z4 := HZ.out.cell 4 _ rfl
  have z5 := HZ.out.cell 5 _ rfl
  have zf := HZ.out.frozen
  have zl := HZ.out.lt
  cases O
  · simp only [cond_false]
    have HN : Hid (P = none) := Lib.hid (by rw [HP.out, HPO.out]; simp)
    go_wp2_with fail
    refine bodyPost_ret (v := .tuple #[.agg #[.int .i64 0, .int .i64 0, .int .i64 0, .int .i64 0, .int .i64 0, .slice none 0 0], .bool false]) (by simp [results, Try.results53, go_sem, *]) rfl ⟨RSig.zero, false, rfl, HRES.out _ _ _ _ (by rw [HN.out]; rfl) (by rw [HN.out]; rfl) (zero_in _) (fun x (hx : none = some x) => (by cases hx)), ?_⟩
    repeat (first | with_reducible refine Keeps.setCell ?_ (by simp <;> omega) _)
    exact HK.out
  simp only [cond_true]
  go_wp2_with fail
  with_reducible refine (HC2.out _).mono ?_
  rintro e w1 ⟨rfl, hk1⟩
  replace HO := Lib.hid (HO.out.keeps hk1)
  replace HS := Lib.hid (HS.out.keeps hk1)
  replace HZ := Lib.hid (HZ.out.keeps hk1)
  replace HK := Lib.hid (HK.out.trans hk1)
  clear hk1
  clear z0 z1 z2 z3 z4 z5 zf zl o0 o1c of ol s0 s1 s2 s3 s4 s5 sf sl
  have o0 := HO.out.cell 0 _ rfl
  have o1c := HO.out.cell 1 _ rfl
  have of := HO.out.frozen
  have ol := HO.out.lt
  have s0 := HS.out.cell 0 _ rfl
  have s1 := HS.out.cell 1 _ rfl
  have s2 := HS.out.cell 2 _ rfl
  have s3 := HS.out.cell 3 _ rfl
  have s4 := HS.out.cell 4 _ rfl
  have s5 := HS.out.cell 5 _ rfl
  have sf := HS.out.frozen
  have sl := HS.out.lt
  have z0 := HZ.out.cell 0 _ rfl
  have z1 := HZ.out.cell 1 _ rfl
  have z2 := HZ.out.cell 2 _ rfl
  have z3 := HZ.out.cell 3 _ rfl
  have z4 := HZ.out.cell 4 _ rfl
  have z5 := HZ.out.cell 5 _ rfl
  have zf := HZ.out.frozen
  have zl := HZ.out.lt
  cases S
  · simp only [cond_false]
    have HN : Hid (P = none) := Lib.hid (by rw [HP.out, HPO.out]; simp)
    go_wp2_with fail
    refine bodyPost_ret (v := .tuple #[.agg #[.int .i64 0, .int .i64 0, .int .i64 0, .int .i64 0, .int .i64 0, .slice none 0 0], .bool false]) (by simp [results, Try.results53, go_sem, *]) rfl ⟨RSig.zero, false, rfl, HRES.out _ _ _ _ (by rw [HN.out]; rfl) (by rw [HN.out]; rfl) (zero_in _) (fun x (hx : none = some x) => (by cases hx)), ?_⟩
    repeat (first | with_reducible refine Keeps.setCell ?_ (by simp <;> omega) _)
    exact HK.out
  simp only [cond_true]
  go_wp2_with fail
  with_reducible refine (HC3.out _).mono ?_
  rintro e w1 ⟨rfl, hk1⟩
  replace HO := Lib.hid (HO.out.keeps hk1)
  replace HS := Lib.hid (HS.out.keeps hk1)
  replace HZ := Lib.hid (HZ.out.keeps hk1)
  replace HK := Lib.hid (HK.out.trans hk1)
  clear hk1
  clear z0 z1 z2 z3 z4 z5 zf zl o0 o1c of ol s0 s1 s2 s3 s4 s5 sf sl
  have o0 := HO.out.cell 0 _ rfl
  have o1c := HO.out.cell 1 _ rfl
  have of := HO.out.frozen
  have ol := HO.out.lt
  have s0 := HS.out.cell 0 _ rfl
  have s1 := HS.out.cell 1 _ rfl
  have s2 := HS.out.cell 2 _ rfl
  have s3 := HS.out.cell 3 _ rfl
  have s4 := HS.out.cell 4 _ rfl
  have s5 := HS.out.cell 5 _ rfl
  have sf := HS.out.frozen
  have sl := HS.out.lt
  have z0 := HZ.out.cell 0 _ rfl
  have z1 := HZ.out.cell 1 _ rfl
  have z2 := HZ.out.cell 2 _ rfl
  have z3 := HZ.out.cell 3 _ rfl
  have z4 := HZ.out.cell 4 _ rfl
  have z5 := HZ.out.cell 5 _ rfl
  have zf := HZ.out.frozen
  have zl := HZ.out.lt
  cases M
  · have HN : Hid (P = none) := Lib.hid (by rw [HP.out, HPO.out]; simp)
    go_wp2_with fail
    refine bodyPost_ret (v := .tuple #[.agg #[.int .i64 0, .int .i64 0, .int .i64 0, .int .i64 0, .int .i64 0, .slice none 0 0], .bool false]) (by simp [results, Try.results53, go_sem, *]) rfl ⟨RSig.zero, false, rfl, HRES.out _ _ _ _ (by rw [HN.out]; rfl) (by rw [HN.out]; rfl) (zero_in _) (fun x (hx : none = some x) => (by cases hx)), ?_⟩
    repeat (first | with_reducible refine Keeps.setCell ?_ (by simp <;> omega) _)
    exact HK.out
  go_wp2_with fail
  with_reducible refine (HC4.out _).mono ?_
  rintro e w1 ⟨rfl, hk1⟩
  replace HO := Lib.hid (HO.out.keeps hk1)
  replace HS := Lib.hid (HS.out.keeps hk1)
  replace HZ := Lib.hid (HZ.out.keeps hk1)
  replace HK := Lib.hid (HK.out.trans hk1)
  clear hk1
  clear z0 z1 z2 z3 z4 z5 zf zl o0 o1c of ol s0 s1 s2 s3 s4 s5 sf sl
  have o0 := HO.out.cell 0 _ rfl
  have o1c := HO.out.cell 1 _ rfl
  have of := HO.out.frozen
  have ol := HO.out.lt
  have s0 := HS.out.cell 0 _ rfl
  have s1 := HS.out.cell 1 _ rfl
  have s2 := HS.out.cell 2 _ rfl
  have s3 := HS.out.cell 3 _ rfl
  have s4 := HS.out.cell 4 _ rfl
  have s5 := HS.out.cell 5 _ rfl
  have sf := HS.out.frozen
  have sl := HS.out.lt
  have z0 := HZ.out.cell 0 _ rfl
  have z1 := HZ.out.cell 1 _ rfl
  have z2 := HZ.out.cell 2 _ rfl
  have z3 := HZ.out.cell 3 _ rfl
  have z4 := HZ.out.cell 4 _ rfl
  have z5 := HZ.out.cell 5 _ rfl
  have zf := HZ.out.frozen
  have zl := HZ.out.lt
  cases N
  · have hnum := HME.out (by first | rfl | trivial)
    have HN : Hid (P = some (fr, max f o1, min t o2, lv, 0, [])) := Lib.hid (by rw [HP.out, HPO.out]; rfl)
    obtain ⟨F1, hF⟩ : ∃ q, q = max f o1 := ⟨_, rfl⟩
    obtain ⟨T1, hT⟩ : ∃ q, q = min t o2 := ⟨_, rfl⟩
    rw [← hF, ← hT] at HN
    have hmx : (if f < o1 then o1 else f) = F1 := by rw [hF]; split <;> omega
    have hmn : (if o2 < t then o2 else t) = T1 := by rw [hT]; split <;> omega
    clear hF hT
    go_wp2_with fail
    go_wp2_with fail
    refine bodyPost_ret (v := .tuple #[.agg #[.int .i64 fr, .int .i64 F1, .int .i64 T1, .int .i64 lv, .int .i64 0, .slice none 0 0], .bool true]) (by simp [results, Try.results53, go_sem, *]) rfl
      ⟨⟨fr, F1, T1, lv, ⟨0, none, 0, 0, []⟩⟩, true, rfl, HRES.out _ _ _ _ (by rw [HN.out]; rfl) (by rw [HN.out]; rfl) (zero_in _) (fun x (hx : none = some x) => (by cases hx)), ?_⟩
    repeat (first | with_reducible refine Keeps.setCell ?_ (by simp <;> omega) _ | with_reducible refine Keeps.drew ?_ | with_reducible refine Keeps.drewN ?_ _)
    exact HK.out
  have HN : Hid (P = some (fr, f, t, lv, n, l)) := Lib.hid (by rw [HP.out, HPO.out]; rfl)
  have hl2 := HL.out (by first | rfl | trivial)
  have s5 := HS.out.cell 5 _ rfl
  have hcap := HI.out.cap
  have hmax := HI.out.max
  have hby := HI.out.byte
  have hn1 := HI.out.n1
  have hn2 := HI.out.n2
  simp only at hcap hmax hby hn1 hn2
  have HB0 := Lib.hid hby
  have HROW0 := Lib.hid (HI.out.keeps HK.out).row
  have hlen2 : len * 1 ≤ 140737488355328 := by omega
  have hl63 : len ≤ 9223372036854775807 := by omega
  have hs2 := HK.out.size
  go_wp2_with (refine wpList_copied rfl _ _ 36 rfl 5 1 .u8 Try.underlying36 info_u8T rfl a len cap l rfl (by exact HROW0.out) hlen2 hl63 ?hmain)
  case hmain =>
    intro a2 cap2 w2 hrow2 hfr2 hc1 hc2 hk1
    have hin2 : RB.In ⟨n, a2, len, cap2, l⟩ w2 := ⟨hn1, hn2, hc1, hc2, HB0.out, hrow2⟩
    replace hfr2 : RB.Fr ⟨n, a2, len, cap2, l⟩ w1.heap.size := hfr2
    clear hc1 hc2 hrow2
    have HIN := Lib.hid hin2
    have HFR := Lib.hid hfr2
    have hs3 : w.heap.size + 1 + 1 < w1.heap.size := zl
    replace HZ := Lib.hid (HZ.out.keeps hk1)
    replace HO := Lib.hid (HO.out.keeps hk1)
    replace HS := Lib.hid (HS.out.keeps hk1)
    replace HK := Lib.hid (HK.out.trans hk1)
    clear hk1 hin2 hfr2
    clear z0 z1 z2 z3 z4 z5 zf zl o0 o1c of ol s0 s1 s2 s3 s4 s5 sf sl
    have o0 := HO.out.cell 0 _ rfl
    have o1c := HO.out.cell 1 _ rfl
    have of := HO.out.frozen
    have ol := HO.out.lt
    have s0 := HS.out.cell 0 _ rfl
    have s1 := HS.out.cell 1 _ rfl
    have s2 := HS.out.cell 2 _ rfl
    have s3 := HS.out.cell 3 _ rfl
    have s4 := HS.out.cell 4 _ rfl
    have s5 := HS.out.cell 5 _ rfl
    have sf := HS.out.frozen
    have sl := HS.out.lt
    have z0 := HZ.out.cell 0 _ rfl
    have z1 := HZ.out.cell 1 _ rfl
    have z2 := HZ.out.cell 2 _ rfl
    have z3 := HZ.out.cell 3 _ rfl
    have z4 := HZ.out.cell 4 _ rfl
    have z5 := HZ.out.cell 5 _ rfl
    have zf := HZ.out.frozen
    have zl := HZ.out.lt
    go_wp2_with fail
    refine bodyPost_ret (v := .tuple #[.agg #[.int .i64 fr, .int .i64 f, .int .i64 t, .int .i64 lv, .int .i64 n, .slice a2 len cap2], .bool true]) (by simp [results, Try.results53, go_sem, *]) rfl
      ⟨⟨fr, f, t, lv, ⟨n, a2, len, cap2, l⟩⟩, true, rfl, HRES.out _ _ _ _ (by rw [HN.out]; rfl) (by rw [HN.out]; rfl) ?_ (HFR.out.mono (by omega)), ?_⟩
    · have hne1 : ∀ x, a2 = some x → x.block ≠ w.heap.size + 1 := fun x hx => by have := HFR.out x hx; omega
      have hne2 : ∀ x, a2 = some x → x.block ≠ w.heap.size + 1 + 1 := fun x hx => by have := HFR.out x hx; omega
      repeat (refine RB.In.keepsBut ?_ (KeepsBut.setCell _ _ _ _) (by first | exact hne1 | exact hne2))
      exact HIN.out
    · repeat (first | with_reducible refine Keeps.setCell ?_ (by simp <;> omega) _)
      exact HK.out
end Go.Proofs.Ytcophhdlcjemeaa
