/- The reference of layer 4: Step (for layer 10). -/
import Derived.Test.YtmjodcackmjllaaC2
namespace Go.Proofs.Ytmjodcackmjllaa
open Go.RowKit
set_option linter.unusedVariables false
set_option linter.unusedSimpArgs false
theorem csErr_yes {c : CS} {n : Int} (h1 : csN n = true) (h2 : csOk c n = true) : csErr c n = 0 := by unfold csErr; rw [if_pos h1, if_pos h2]
def csStep (c : CS) (n : Int) : CS := if c.p + 1 = n then ⟨(c.t + 1) % 256, 0, (if c.x = 0 then c.m else c.x - 1), 0, c.b⟩ else ⟨c.t, c.p + 1, c.m, c.x, c.b⟩
def stepRes (c : CS) (n : Int) : CS × Int := if csErr c n = 0 then (csStep c n, 0) else (CS.zero, csErr c n)
theorem and255_all : ∀ k : Fin 256, bits .and .i64 (((k : Nat) : Int) + 1) 255 = (((k : Nat) : Int) + 1) % 256 := by decide +kernel
theorem and255 (t : Int) (h1 : 0 ≤ t) (h2 : t ≤ 255) : bits .and .i64 (t + 1) 255 = (t + 1) % 256 := by
  obtain ⟨k, rfl⟩ := Int.eq_ofNat_of_zero_le h1
  exact and255_all ⟨k, by omega⟩

set_option maxHeartbeats 2000000 in
set_option maxRecDepth 100000 in
theorem rcstep_no (c : CS) (n : Int) (w : World) (e0 : Int) (he : csErr c n = e0) (h0 : (e0 != 0) = true) :
    Calls Try.prog 19 #[c.val, .int .i64 n] w fun e w' => e = .returned (.tuple #[CS.zero.val, .int .i64 e0]) ∧ Keeps w w' := by
  obtain ⟨t, p, m, x, b⟩ := c
  have HE := Lib.hid he
  clear he
  show Calls Try.prog 19 #[.agg #[.int .i64 t, .int .i64 p, .int .i64 m, .int .i64 x, .int .i64 b], .int .i64 n] w _
  go_enter Try.func19, Try.ntmps19
  go_wp2_with fail
  with_reducible refine (rccheck_any ⟨t, p, m, x, b⟩ n _).mono ?_
  rw [HE.out]
  rintro e w1 ⟨rfl, hk1⟩
  have hb := (Box.new (w.alloc (.cells #[.int .i64 t, .int .i64 p, .int .i64 m, .int .i64 x, .int .i64 b] 27)) 27 #[.int .i64 0, .int .i64 0, .int .i64 0, .int .i64 0, .int .i64 0]).keeps hk1
  rw [World.size_alloc] at hb
  have z0 := hb.cell 0 _ rfl
  have z1 := hb.cell 1 _ rfl
  have z2 := hb.cell 2 _ rfl
  have z3 := hb.cell 3 _ rfl
  have z4 := hb.cell 4 _ rfl
  have zf := hb.frozen
  have HK := Lib.hid (((Keeps.refl w).alloc _).alloc _ |>.trans hk1)
  clear hk1 hb
  go_wp2_with fail
  refine bodyPost_ret (by simp [results, Try.results19, go_sem, CS.zero, *]) rfl ⟨rfl, ?_⟩
  repeat (first | with_reducible exact HK.out | with_reducible refine Keeps.setCell ?_ (by simp) _ | with_reducible refine Keeps.alloc ?_ _)

set_option maxHeartbeats 4000000 in
set_option maxRecDepth 100000 in
theorem rcstep_ok (c : CS) (n : Int) (w : World) (hn : csN n = true) (hc : csOk c n = true) :
    Calls Try.prog 19 #[c.val, .int .i64 n] w fun e w' => e = .returned (.tuple #[(csStep c n).val, .int .i64 0]) ∧ Keeps w w' := by
  have HE := Lib.hid (csErr_yes hn hc)
  rw [csOk_iff] at hc
  rw [csN_iff] at hn
  obtain ⟨t, p, m, x, b⟩ := c
  obtain ⟨h1, h2, h3, h4, h5, h6, h7, h8, h9, h10⟩ := hc
  clear h10
  simp only at h1 h2 h3 h4 h5 h6 h7 h8 h9
  have hp1 : IntKind.i64.wrap (p + 1) = p + 1 := IntWalk.i64_in _ (by omega)
  have ht1 : IntKind.i64.wrap (t + 1) = t + 1 := IntWalk.i64_in _ (by omega)
  have hx1 : IntKind.i64.wrap (x - 1) = x - 1 := IntWalk.i64_in _ (by omega)
  by_cases hp : p + 1 = n
  · have hd : decide (p + 1 < n) = false := by simp; omega
    have hta : (t + 1).tmod 256 = (t + 1) % 256 := Int.tmod_eq_emod_of_nonneg (by omega)
    by_cases hxx : x = 0
    · have hs : csStep ⟨t, p, m, x, b⟩ n = ⟨(t + 1) % 256, 0, m, x, b⟩ := by simp only [csStep, if_pos hp, hxx, if_true]
      have hx : (decide (0 < x)) = false := by simp; omega
      rw [hs]
      clear hs h1 h2 h3 h4 h5 h6 h7 h8 h9 hn hp hxx
      show Calls Try.prog 19 #[.agg #[.int .i64 t, .int .i64 p, .int .i64 m, .int .i64 x, .int .i64 b], .int .i64 n] w _
      go_enter Try.func19, Try.ntmps19
      go_wp2_with fail
      with_reducible refine (rccheck_any ⟨t, p, m, x, b⟩ n _).mono ?_
      rw [HE.out]
      rintro e w1 ⟨rfl, hk1⟩
      have hb := (Box.new (w.alloc (.cells #[.int .i64 t, .int .i64 p, .int .i64 m, .int .i64 x, .int .i64 b] 27)) 27 #[.int .i64 0, .int .i64 0, .int .i64 0, .int .i64 0, .int .i64 0]).keeps hk1
      have ha := ((Box.new w 27 #[.int .i64 t, .int .i64 p, .int .i64 m, .int .i64 x, .int .i64 b]).next (.cells #[.int .i64 0, .int .i64 0, .int .i64 0, .int .i64 0, .int .i64 0] 27)).keeps hk1
      rw [World.size_alloc] at hb
      have z0 := hb.cell 0 _ rfl
      have z1 := hb.cell 1 _ rfl
      have z2 := hb.cell 2 _ rfl
      have z3 := hb.cell 3 _ rfl
      have z4 := hb.cell 4 _ rfl
      have zf := hb.frozen
      have hbl := hb.lt
      have a0 := ha.cell 0 _ rfl
      have a1 := ha.cell 1 _ rfl
      have a2 := ha.cell 2 _ rfl
      have a3 := ha.cell 3 _ rfl
      have a4 := ha.cell 4 _ rfl
      have af := ha.frozen
      have hal := ha.lt
      have HK := Lib.hid (((Keeps.refl w).alloc _).alloc _ |>.trans hk1)
      clear hk1 hb ha
      go_wp2_with fail
      refine bodyPost_ret (by simp [results, Try.results19, go_sem, *]) rfl ⟨rfl, ?_⟩
      repeat (first | with_reducible exact HK.out | with_reducible refine Keeps.setCell ?_ (by simp) _ | with_reducible refine Keeps.alloc ?_ _)

    · have hs : csStep ⟨t, p, m, x, b⟩ n = ⟨(t + 1) % 256, 0, x - 1, 0, b⟩ := by simp only [csStep, if_pos hp, if_neg hxx]
      have hx : (decide (0 < x)) = true := by simp; omega
      rw [hs]
      clear hs h1 h2 h3 h4 h5 h6 h7 h8 h9 hn hp hxx
      show Calls Try.prog 19 #[.agg #[.int .i64 t, .int .i64 p, .int .i64 m, .int .i64 x, .int .i64 b], .int .i64 n] w _
      go_enter Try.func19, Try.ntmps19
      go_wp2_with fail
      with_reducible refine (rccheck_any ⟨t, p, m, x, b⟩ n _).mono ?_
      rw [HE.out]
      rintro e w1 ⟨rfl, hk1⟩
      have hb := (Box.new (w.alloc (.cells #[.int .i64 t, .int .i64 p, .int .i64 m, .int .i64 x, .int .i64 b] 27)) 27 #[.int .i64 0, .int .i64 0, .int .i64 0, .int .i64 0, .int .i64 0]).keeps hk1
      have ha := ((Box.new w 27 #[.int .i64 t, .int .i64 p, .int .i64 m, .int .i64 x, .int .i64 b]).next (.cells #[.int .i64 0, .int .i64 0, .int .i64 0, .int .i64 0, .int .i64 0] 27)).keeps hk1
      rw [World.size_alloc] at hb
      have z0 := hb.cell 0 _ rfl
      have z1 := hb.cell 1 _ rfl
      have z2 := hb.cell 2 _ rfl
      have z3 := hb.cell 3 _ rfl
      have z4 := hb.cell 4 _ rfl
      have zf := hb.frozen
      have hbl := hb.lt
      have a0 := ha.cell 0 _ rfl
      have a1 := ha.cell 1 _ rfl
      have a2 := ha.cell 2 _ rfl
      have a3 := ha.cell 3 _ rfl
      have a4 := ha.cell 4 _ rfl
      have af := ha.frozen
      have hal := ha.lt
      have HK := Lib.hid (((Keeps.refl w).alloc _).alloc _ |>.trans hk1)
      clear hk1 hb ha
      go_wp2_with fail
      refine bodyPost_ret (by simp [results, Try.results19, go_sem, *]) rfl ⟨rfl, ?_⟩
      repeat (first | with_reducible exact HK.out | with_reducible refine Keeps.setCell ?_ (by simp) _ | with_reducible refine Keeps.alloc ?_ _)

  · have hd : decide (p + 1 < n) = true := by simp; omega
    have hs : csStep ⟨t, p, m, x, b⟩ n = ⟨t, p + 1, m, x, b⟩ := by simp only [csStep, if_neg hp]
    rw [hs]
    clear hs h1 h2 h3 h4 h5 h6 h7 h8 h9 hn hp
    show Calls Try.prog 19 #[.agg #[.int .i64 t, .int .i64 p, .int .i64 m, .int .i64 x, .int .i64 b], .int .i64 n] w _
    go_enter Try.func19, Try.ntmps19
    go_wp2_with fail
    with_reducible refine (rccheck_any ⟨t, p, m, x, b⟩ n _).mono ?_
    rw [HE.out]
    rintro e w1 ⟨rfl, hk1⟩
    have hb := (Box.new (w.alloc (.cells #[.int .i64 t, .int .i64 p, .int .i64 m, .int .i64 x, .int .i64 b] 27)) 27 #[.int .i64 0, .int .i64 0, .int .i64 0, .int .i64 0, .int .i64 0]).keeps hk1
    have ha := ((Box.new w 27 #[.int .i64 t, .int .i64 p, .int .i64 m, .int .i64 x, .int .i64 b]).next (.cells #[.int .i64 0, .int .i64 0, .int .i64 0, .int .i64 0, .int .i64 0] 27)).keeps hk1
    rw [World.size_alloc] at hb
    have z0 := hb.cell 0 _ rfl
    have z1 := hb.cell 1 _ rfl
    have z2 := hb.cell 2 _ rfl
    have z3 := hb.cell 3 _ rfl
    have z4 := hb.cell 4 _ rfl
    have zf := hb.frozen
    have hbl := hb.lt
    have a0 := ha.cell 0 _ rfl
    have a1 := ha.cell 1 _ rfl
    have a2 := ha.cell 2 _ rfl
    have a3 := ha.cell 3 _ rfl
    have a4 := ha.cell 4 _ rfl
    have af := ha.frozen
    have hal := ha.lt
    have HK := Lib.hid (((Keeps.refl w).alloc _).alloc _ |>.trans hk1)
    clear hk1 hb ha
    go_wp2_with fail
    refine bodyPost_ret (by simp [results, Try.results19, go_sem, *]) rfl ⟨rfl, ?_⟩
    repeat (first | with_reducible exact HK.out | with_reducible refine Keeps.setCell ?_ (by simp) _ | with_reducible refine Keeps.alloc ?_ _)

theorem csErr_cases (c : CS) (n : Int) : (csErr c n = 0 ∧ csN n = true ∧ csOk c n = true) ∨ (csErr c n != 0) = true := by
  unfold csErr
  cases h1 : csN n <;> cases h2 : csOk c n <;> simp
theorem rcstep_any (c : CS) (n : Int) (w : World) :
    Calls Try.prog 19 #[c.val, .int .i64 n] w fun e w' => e = .returned (.tuple #[(stepRes c n).1.val, .int .i64 (stepRes c n).2]) ∧ Keeps w w' := by
  unfold stepRes
  rcases csErr_cases c n with ⟨h, h1, h2⟩ | h
  · rw [if_pos h]; exact rcstep_ok c n w h1 h2
  · rw [if_neg (by simpa using h)]; exact rcstep_no c n w _ rfl h
/-- a state behind k slots, up to the round's end -/
def csRun (c : CS) (n : Int) (k : Nat) : CS := if c.p + k < n then ⟨c.t, c.p + k, c.m, c.x, c.b⟩ else ⟨(c.t + 1) % 256, 0, (if c.x = 0 then c.m else c.x - 1), 0, c.b⟩
theorem csErr_ok {c : CS} {n : Int} (h : csErr c n = 0) : csN n = true ∧ csOk c n = true := by
  rcases csErr_cases c n with ⟨-, h1, h2⟩ | h1
  · exact ⟨h1, h2⟩
  · rw [h] at h1; cases h1
theorem csRun_zero {c : CS} {n : Int} (h : csErr c n = 0) : csRun c n 0 = c := by
  have := (csOk_iff c n).1 (csErr_ok h).2
  unfold csRun
  rw [if_pos (by omega)]
  obtain ⟨t, p, m, x, b⟩ := c
  simp
theorem csRun_err {c : CS} {n : Int} (h : csErr c n = 0) (k : Nat) : csErr (csRun c n k) n = 0 := by
  obtain ⟨h1, h2⟩ := csErr_ok h
  refine csErr_yes h1 ((csOk_iff _ n).2 ?_)
  obtain ⟨a1, a2, a3, a4, a5, a6, a7, a8, a9, a10⟩ := (csOk_iff c n).1 h2
  have hn := (csN_iff n).1 h1
  unfold csRun
  split
  · exact ⟨a1, a2, by simp only; omega, by simp only; omega, a5, a6, a7, a8, a9, a10⟩
  · refine ⟨by simp only; omega, by simp only; omega, by simp only; omega, by simp only; omega, ?_, ?_, by simp only; omega, by simp only; omega, a9, a10⟩
    · simp only; split <;> omega
    · simp only; split <;> omega
theorem csRun_step {c : CS} {n : Int} (h : csErr c n = 0) (k : Nat) (hk : c.p + k < n) : stepRes (csRun c n k) n = (csRun c n (k + 1), 0) := by
  unfold stepRes
  rw [if_pos (csRun_err h k)]
  unfold csStep
  have e : csRun c n k = ⟨c.t, c.p + k, c.m, c.x, c.b⟩ := by unfold csRun; rw [if_pos hk]
  rw [e]
  unfold csRun
  simp only
  by_cases h2 : c.p + k + 1 = n
  · rw [if_pos h2, if_neg (show ¬ c.p + ((k + 1 : Nat) : Int) < n by omega)]
  · rw [if_neg h2, if_pos (show c.p + ((k + 1 : Nat) : Int) < n by omega)]
    rw [show c.p + (k : Int) + 1 = c.p + ((k + 1 : Nat) : Int) by omega]
end Go.Proofs.Ytmjodcackmjllaa
