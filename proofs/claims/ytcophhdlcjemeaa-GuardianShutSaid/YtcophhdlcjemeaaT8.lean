/- The walk of layer 20, 3: Pass of any signal. -/
import Derived.Test.YtcophhdlcjemeaaU1
import Derived.RegionTactic
import Derived.ChangeAlike
import Derived.BigRegion
namespace Go.Proofs.Ytcophhdlcjemeaa
open Go.RowKit
set_option linter.unusedVariables false
set_option linter.unusedSimpArgs false
/-- what a signal says -/
abbrev PSig := Int × Int × Int × Int × Int × List Nat
def RSig.p (s : RSig) : PSig := (s.fr, s.f, s.t, s.lv, s.b.n, s.b.l)
def passOk (o1 o2 : Int) (s : RSig) : Bool := sigOk s && (spanOk o1 o2 && spanMeets s.f s.t o1 o2)
/-- what a span leaves of a signal -/
def passP (o1 o2 : Int) (s : RSig) : Option PSig := cond (passOk o1 o2 s) (some (cond (spanIn s.f s.t o1 o2) s.p (s.fr, max s.f o1, min s.t o2, s.lv, 0, []))) none
/-- what Pass answers -/
structure PassRes (o1 o2 : Int) (s : RSig) (B : Nat) (w' : World) (r : RSig) (is : Bool) : Prop where
  is : is = (passP o1 o2 s).isSome
  p : r.p = (passP o1 o2 s).getD RSig.zero.p
  isIn : r.b.In w'
  fr : r.b.Fr B
/-- what stands behind the call of Pass -/
def PassPost (o1 o2 : Int) (s : RSig) (w : World) (e : Ending) (w' : World) : Prop := ∃ r is, e = .returned (.tuple #[RSig.val r, .bool is]) ∧ PassRes o1 o2 s w.heap.size w' r is ∧ Keeps w w'
theorem zero_in (w : World) : RB.In ⟨0, none, 0, 0, []⟩ w := by
  refine ⟨by decide, by decide, by decide, by decide, fun x hx => (by cases hx), rfl, fun i h => absurd h (Nat.not_lt_zero _)⟩
theorem sig_len {s : RSig} {w : World} (h : sigOk s = true) (hi : s.b.In w) : s.b.len ≤ 512 := by
  unfold sigOk at h
  simp only [Bool.and_eq_true] at h
  obtain ⟨c0, c1, c2, -⟩ := chk_parts h.2.2
  have hr := hi.row.1
  omega
theorem meets_num {a b c d : Int} (h : spanMeets a b c d = true) : 0 ≤ a ∧ a ≤ b ∧ 0 ≤ c ∧ c ≤ d ∧ a < d ∧ c < b ∧ a < b ∧ c < d ∧ b ≤ 1099511627776 ∧ d ≤ 1099511627776 := by
  unfold spanMeets at h
  simp only [Bool.and_eq_true, decide_eq_true_eq, spanOk_iff] at h
  omega
set_option maxRecDepth 100000 in
set_option maxHeartbeats 1000000 in
theorem pass_any (o1 o2 : Int) (s : RSig) (w : World) (hs : s.b.In w) :
    Calls Try.prog 47 #[.agg #[.int .i64 o1, .int .i64 o2], s.val] w (PassPost o1 o2 s w) := by
  have HI := Lib.hid hs
  have HC1 := Lib.hid (fun w h => sigcheck_any s w h)
  have HC2 := Lib.hid (fun w => scheck_any o1 o2 w)
  have HC3 := Lib.hid (fun w => meets_any s.f s.t o1 o2 w)
  have HC4 := Lib.hid (fun w => within6_any s.f s.t o1 o2 w)
  have HL := Lib.hid (fun (h : sigOk s = true) => sig_len h hs)
  have HP : Hid (passP o1 o2 s = cond (passOk o1 o2 s) (some (cond (spanIn s.f s.t o1 o2) s.p (s.fr, max s.f o1, min s.t o2, s.lv, 0, []))) none) := Lib.hid rfl
  have HPO : Hid (passOk o1 o2 s = (sigOk s && (spanOk o1 o2 && spanMeets s.f s.t o1 o2))) := Lib.hid rfl
  have HME := Lib.hid (fun (h : spanMeets s.f s.t o1 o2 = true) => meets_num h)
  obtain ⟨P, hP⟩ : ∃ P, P = passP o1 o2 s := ⟨_, rfl⟩
  have HRES : Hid (∀ B w' r is, is = P.isSome → r.p = P.getD RSig.zero.p → r.b.In w' → r.b.Fr B → PassRes o1 o2 s B w' r is) := Lib.hid (fun B w' r is h1 h2 h3 h4 => ⟨by rw [h1, hP], by rw [h2, hP], h3, h4⟩)
  rw [← hP] at HP
  clear hP
  obtain ⟨O, hO⟩ : ∃ O, O = sigOk s := ⟨_, rfl⟩
  rw [← hO] at HC1 HL HPO
  have HOK := Lib.hid hO
  obtain ⟨fr, f, t, lv, n, a, len, cap, l⟩ := s
  simp only at HI HC2 HC3 HC4 HP HPO HME HL
  obtain ⟨M, hM⟩ : ∃ M, M = spanMeets f t o1 o2 := ⟨_, rfl⟩
  rw [← hM] at HC3 HPO HME
  obtain ⟨N, hN⟩ : ∃ N, N = spanIn f t o1 o2 := ⟨_, rfl⟩
  rw [← hN] at HC4 HP
  obtain ⟨S, hS⟩ : ∃ S, S = spanOk o1 o2 := ⟨_, rfl⟩
  rw [← hS] at HC2 HPO
  clear hs hO hM hN hS
  have HK := Lib.hid (((Keeps.refl w).alloc (.cells #[.int .i64 o1, .int .i64 o2] 30)).alloc (.cells #[.int .i64 fr, .int .i64 f, .int .i64 t, .int .i64 lv, .int .i64 n, .slice a len cap] 73))
  have HO := Lib.hid ((Box.new w 30 #[.int .i64 o1, .int .i64 o2]).next (.cells #[.int .i64 fr, .int .i64 f, .int .i64 t, .int .i64 lv, .int .i64 n, .slice a len cap] 73))
  have hb := Box.new (w.alloc (.cells #[.int .i64 o1, .int .i64 o2] 30)) 73 #[.int .i64 fr, .int .i64 f, .int .i64 t, .int .i64 lv, .int .i64 n, .slice a len cap]
  rw [World.size_alloc] at hb
  have HS := Lib.hid hb
  clear hb
  show Calls Try.prog 47 #[.agg #[.int .i64 o1, .int .i64 o2], .agg #[.int .i64 fr, .int .i64 f, .int .i64 t, .int .i64 lv, .int .i64 n, .slice a len cap]] w (PassPost o1 o2 ⟨fr, f, t, lv, n, a, len, cap, l⟩ w)
  go_enter Try.func47, Try.ntmps47
  go_wp2_with fail
  have hbz := Box.new ((w.alloc (.cells #[.int .i64 o1, .int .i64 o2] 30)).alloc (.cells #[.int .i64 fr, .int .i64 f, .int .i64 t, .int .i64 lv, .int .i64 n, .slice a len cap] 73)) 73 #[.int .i64 0, .int .i64 0, .int .i64 0, .int .i64 0, .int .i64 0, .slice none 0 0]
  rw [World.size_alloc, World.size_alloc] at hbz
  have HZ := Lib.hid hbz
  clear hbz
  replace HK := Lib.hid (HK.out.alloc (.cells #[.int .i64 0, .int .i64 0, .int .i64 0, .int .i64 0, .int .i64 0, .slice none 0 0] 73))
  replace HO := Lib.hid (HO.out.next (.cells #[.int .i64 0, .int .i64 0, .int .i64 0, .int .i64 0, .int .i64 0, .slice none 0 0] 73))
  replace HS := Lib.hid (HS.out.next (.cells #[.int .i64 0, .int .i64 0, .int .i64 0, .int .i64 0, .int .i64 0, .slice none 0 0] 73))
  with_reducible refine (HC1.out _ (by exact HI.out.keeps HK.out)).mono ?_
  rintro e w1 ⟨rfl, hk1⟩
  replace HO := Lib.hid (HO.out.keeps hk1)
  replace HS := Lib.hid (HS.out.keeps hk1)
  replace HZ := Lib.hid (HZ.out.keeps hk1)
  replace HK := Lib.hid (HK.out.trans hk1)
  clear hk1
  have o0 := HO.out.cell 0 _ rfl
  have o1c := HO.out.cell 1 _ rfl
  have of := HO.out.frozen
  have ol := HO.out.lt
  have s0 := HS.out.cell 0 _ rfl
  have s1 := HS.out.cell 1 _ rfl
  have s2 := HS.out.cell 2 _ rfl
  have s3 := HS.out.cell 3 _ rfl
  have s4 := HS.out.cell 4 _ rfl
  have s5 := HS.out.cell 5 _ rfl
  have sf := HS.out.frozen
  have sl := HS.out.lt
  have z0 := HZ.out.cell 0 _ rfl
  have z1 := HZ.out.cell 1 _ rfl
  have z2 := HZ.out.cell 2 _ rfl
  have z3 := HZ.out.cell 3 _ rfl
  have z4 := HZ.out.cell 4 _ rfl
  have z5 := HZ.out.cell 5 _ rfl
  have zf := HZ.out.frozen
  have zl := HZ.out.lt
  cases O
  · simp only [cond_false]
    have HN : Hid (P = none) := Lib.hid (by rw [HP.out, HPO.out]; simp)
    go_wp2_with fail
    refine bodyPost_ret (v := .tuple #[.agg #[.int .i64 0, .int .i64 0, .int .i64 0, .int .i64 0, .int .i64 0, .slice none 0 0], .bool false]) (by simp [results, Try.results47, go_sem, *]) rfl ⟨RSig.zero, false, rfl, HRES.out _ _ _ _ (by rw [HN.out]; rfl) (by rw [HN.out]; rfl) (zero_in _) (fun x (hx : none = some x) => (by cases hx)), ?_⟩
    repeat (first | with_reducible refine Keeps.setCell ?_ (by simp <;> omega) _)
    exact HK.out
  simp only [cond_true]
  go_wp2_with fail
  with_reducible refine (HC2.out _).mono ?_
  rintro e w1 ⟨rfl, hk1⟩
  replace HO := Lib.hid (HO.out.keeps hk1)
  replace HS := Lib.hid (HS.out.keeps hk1)
  replace HZ := Lib.hid (HZ.out.keeps hk1)
  replace HK := Lib.hid (HK.out.trans hk1)
  clear hk1
  clear z0 z1 z2 z3 z4 z5 zf zl o0 o1c of ol s0 s1 s2 s3 s4 s5 sf sl
  have o0 := HO.out.cell 0 _ rfl
  have o1c := HO.out.cell 1 _ rfl
  have of := HO.out.frozen
  have ol := HO.out.lt
  have s0 := HS.out.cell 0 _ rfl
  have s1 := HS.out.cell 1 _ rfl
  have s2 := HS.out.cell 2 _ rfl
  have s3 := HS.out.cell 3 _ rfl
  have s4 := HS.out.cell 4 _ rfl
  have s5 := HS.out.cell 5 _ rfl
  have sf := HS.out.frozen
  have sl := HS.out.lt
  have z0 := HZ.out.cell 0 _ rfl
  have z1 := HZ.out.cell 1 _ rfl
  have z2 := HZ.out.cell 2 _ rfl
  have z3 := HZ.out.cell 3 _ rfl
  have z4 := HZ.out.cell 4 _ rfl
  have z5 := HZ.out.cell 5 _ rfl
  have zf := HZ.out.frozen
  have zl := HZ.out.lt
  cases S
  · simp only [cond_false]
    have HN : Hid (P = none) := Lib.hid (by rw [HP.out, HPO.out]; simp)
    go_wp2_with fail
    refine bodyPost_ret (v := .tuple #[.agg #[.int .i64 0, .int .i64 0, .int .i64 0, .int .i64 0, .int .i64 0, .slice none 0 0], .bool false]) (by simp [results, Try.results47, go_sem, *]) rfl ⟨RSig.zero, false, rfl, HRES.out _ _ _ _ (by rw [HN.out]; rfl) (by rw [HN.out]; rfl) (zero_in _) (fun x (hx : none = some x) => (by cases hx)), ?_⟩
    repeat (first | with_reducible refine Keeps.setCell ?_ (by simp <;> omega) _)
    exact HK.out
  simp only [cond_true]
  go_wp2_with fail
  with_reducible refine (HC3.out _).mono ?_
  rintro e w1 ⟨rfl, hk1⟩
  replace HO := Lib.hid (HO.out.keeps hk1)
  replace HS := Lib.hid (HS.out.keeps hk1)
  replace HZ := Lib.hid (HZ.out.keeps hk1)
  replace HK := Lib.hid (HK.out.trans hk1)
  clear hk1
  clear z0 z1 z2 z3 z4 z5 zf zl o0 o1c of ol s0 s1 s2 s3 s4 s5 sf sl
  have o0 := HO.out.cell 0 _ rfl
  have o1c := HO.out.cell 1 _ rfl
  have of := HO.out.frozen
  have ol := HO.out.lt
  have s0 := HS.out.cell 0 _ rfl
  have s1 := HS.out.cell 1 _ rfl
  have s2 := HS.out.cell 2 _ rfl
  have s3 := HS.out.cell 3 _ rfl
  have s4 := HS.out.cell 4 _ rfl
  have s5 := HS.out.cell 5 _ rfl
  have sf := HS.out.frozen
  have sl := HS.out.lt
  have z0 := HZ.out.cell 0 _ rfl
  have z1 := HZ.out.cell 1 _ rfl
  have z2 := HZ.out.cell 2 _ rfl
  have z3 := HZ.out.cell 3 _ rfl
  have z4 := HZ.out.cell 4 _ rfl
  have z5 := HZ.out.cell 5 _ rfl
  have zf := HZ.out.frozen
  have zl := HZ.out.lt
  cases M
  · have HN : Hid (P = none) := Lib.hid (by rw [HP.out, HPO.out]; simp)
    go_wp2_with fail
    refine bodyPost_ret (v := .tuple #[.agg #[.int .i64 0, .int .i64 0, .int .i64 0, .int .i64 0, .int .i64 0, .slice none 0 0], .bool false]) (by simp [results, Try.results47, go_sem, *]) rfl ⟨RSig.zero, false, rfl, HRES.out _ _ _ _ (by rw [HN.out]; rfl) (by rw [HN.out]; rfl) (zero_in _) (fun x (hx : none = some x) => (by cases hx)), ?_⟩
    repeat (first | with_reducible refine Keeps.setCell ?_ (by simp <;> omega) _)
    exact HK.out
  go_wp2_with fail
  with_reducible refine (HC4.out _).mono ?_
  rintro e w1 ⟨rfl, hk1⟩
  replace HO := Lib.hid (HO.out.keeps hk1)
  replace HS := Lib.hid (HS.out.keeps hk1)
  replace HZ := Lib.hid (HZ.out.keeps hk1)
  replace HK := Lib.hid (HK.out.trans hk1)
  clear hk1
  clear z0 z1 z2 z3 z4 z5 zf zl o0 o1c of ol s0 s1 s2 s3 s4 s5 sf sl
  have o0 := HO.out.cell 0 _ rfl
  have o1c := HO.out.cell 1 _ rfl
  have of := HO.out.frozen
  have ol := HO.out.lt
  have s0 := HS.out.cell 0 _ rfl
  have s1 := HS.out.cell 1 _ rfl
  have s2 := HS.out.cell 2 _ rfl
  have s3 := HS.out.cell 3 _ rfl
  have s4 := HS.out.cell 4 _ rfl
  have s5 := HS.out.cell 5 _ rfl
  have sf := HS.out.frozen
  have sl := HS.out.lt
  have z0 := HZ.out.cell 0 _ rfl
  have z1 := HZ.out.cell 1 _ rfl
  have z2 := HZ.out.cell 2 _ rfl
  have z3 := HZ.out.cell 3 _ rfl
  have z4 := HZ.out.cell 4 _ rfl
  have z5 := HZ.out.cell 5 _ rfl
  have zf := HZ.out.frozen
  have zl := HZ.out.lt
  cases N
  · have hnum := HME.out (by first | rfl | trivial)
    have HN : Hid (P = some (fr, max f o1, min t o2, lv, 0, [])) := Lib.hid (by rw [HP.out, HPO.out]; rfl)
    obtain ⟨F1, hF⟩ : ∃ q, q = max f o1 := ⟨_, rfl⟩
    obtain ⟨T1, hT⟩ : ∃ q, q = min t o2 := ⟨_, rfl⟩
    rw [← hF, ← hT] at HN
    have hmx : (if f < o1 then o1 else f) = F1 := by rw [hF]; split <;> omega
    have hmn : (if o2 < t then o2 else t) = T1 := by rw [hT]; split <;> omega
    clear hF hT
    go_wp2_with fail
    go_region
    go_wp2_with fail
    refine bodyPost_ret (v := .tuple #[.agg #[.int .i64 fr, .int .i64 F1, .int .i64 T1, .int .i64 lv, .int .i64 0, .slice none 0 0], .bool true]) (by simp [results, Try.results47, go_sem, *]) rfl
      ⟨⟨fr, F1, T1, lv, ⟨0, none, 0, 0, []⟩⟩, true, rfl, HRES.out _ _ _ _ (by rw [HN.out]; rfl) (by rw [HN.out]; rfl) (zero_in _) (fun x (hx : none = some x) => (by cases hx)), ?_⟩
    repeat (first | with_reducible refine Keeps.setCell ?_ (by simp <;> omega) _ | with_reducible refine Keeps.drew ?_ | with_reducible refine Keeps.drewN ?_ _)
    exact HK.out
  have HN : Hid (P = some (fr, f, t, lv, n, l)) := Lib.hid (by rw [HP.out, HPO.out]; rfl)
  have hl2 := HL.out (by first | rfl | trivial)
  go_wp2_with fail
  have hs2 := HK.out.size
  with_reducible refine (clone_any ⟨n, a, len, cap, l⟩ _ (by exact HI.out.keeps HK.out) hl2).mono ?_
  rintro e w2 ⟨a2, cap2, rfl, hin2, hfr2, hk1⟩
  have HIN := Lib.hid hin2
  have HFR := Lib.hid hfr2
  have hs3 : w.heap.size + 1 + 1 < w1.heap.size := zl
  replace HZ := Lib.hid (HZ.out.keeps hk1)
  replace HO := Lib.hid (HO.out.keeps hk1)
  replace HS := Lib.hid (HS.out.keeps hk1)
  replace HK := Lib.hid (HK.out.trans hk1)
  clear hk1 hin2 hfr2
  clear z0 z1 z2 z3 z4 z5 zf zl o0 o1c of ol s0 s1 s2 s3 s4 s5 sf sl
  have o0 := HO.out.cell 0 _ rfl
  have o1c := HO.out.cell 1 _ rfl
  have of := HO.out.frozen
  have ol := HO.out.lt
  have s0 := HS.out.cell 0 _ rfl
  have s1 := HS.out.cell 1 _ rfl
  have s2 := HS.out.cell 2 _ rfl
  have s3 := HS.out.cell 3 _ rfl
  have s4 := HS.out.cell 4 _ rfl
  have s5 := HS.out.cell 5 _ rfl
  have sf := HS.out.frozen
  have sl := HS.out.lt
  have z0 := HZ.out.cell 0 _ rfl
  have z1 := HZ.out.cell 1 _ rfl
  have z2 := HZ.out.cell 2 _ rfl
  have z3 := HZ.out.cell 3 _ rfl
  have z4 := HZ.out.cell 4 _ rfl
  have z5 := HZ.out.cell 5 _ rfl
  have zf := HZ.out.frozen
  have zl := HZ.out.lt
  simp only
  go_wp2_with fail
  refine bodyPost_ret (v := .tuple #[.agg #[.int .i64 fr, .int .i64 f, .int .i64 t, .int .i64 lv, .int .i64 n, .slice a2 len cap2], .bool true]) (by simp [results, Try.results47, go_sem, *]) rfl
    ⟨⟨fr, f, t, lv, ⟨n, a2, len, cap2, l⟩⟩, true, rfl, HRES.out _ _ _ _ (by rw [HN.out]; rfl) (by rw [HN.out]; rfl) ?_ (HFR.out.mono (by omega)), ?_⟩
  · have hne1 : ∀ x, a2 = some x → x.block ≠ w.heap.size + 1 := fun x hx => by have := HFR.out x hx; omega
    have hne2 : ∀ x, a2 = some x → x.block ≠ w.heap.size + 1 + 1 := fun x hx => by have := HFR.out x hx; omega
    repeat (refine RB.In.keepsBut ?_ (KeepsBut.setCell _ _ _ _) (by first | exact hne1 | exact hne2))
    exact HIN.out
  · repeat (first | with_reducible refine Keeps.setCell ?_ (by simp <;> omega) _)
    exact HK.out
end Go.Proofs.Ytcophhdlcjemeaa
