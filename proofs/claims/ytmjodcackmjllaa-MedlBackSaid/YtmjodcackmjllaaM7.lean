/- The walks of layer 7, 5: ContainsFunc, least. -/
import Derived.Test.YtmjodcackmjllaaM6
namespace Go.Proofs.Ytmjodcackmjllaa
open Go.RowKit Go.Shelf
set_option linter.unusedVariables false
set_option linter.unusedSimpArgs false
abbrev RMedl.arr (m : RMedl) : Array Value := #[.int .i64 m.nodes, .int .i64 m.slot, .int .i64 m.gap, .int .i64 m.window, .int .i64 m.drift, .int .i64 m.delay, m.cv, .slice m.ma m.mn m.mc]
set_option maxRecDepth 100000 in
set_option maxHeartbeats 1000000 in
theorem hasModes_any (m : RMedl) (B : Nat) (w : World) (hm : m.In w) (hc : countsOk m = true) (hB : Box w B 25 m.arr) :
    Calls Try.prog 61 #[.slice m.ma m.mn m.mc, .func (.func 62) #[] #[.pointer (some ⟨B, 0, none⟩)]] w fun e w' => e = .returned (.bool (!modesOk m)) ∧ Keeps w w' := by
  have HCON := Lib.hid (idxModes_any m B w hm hc hB)
  clear hm hc hB
  obtain ⟨R, hR⟩ : ∃ R, R = modesOk m := ⟨_, rfl⟩
  rw [← hR] at HCON ⊢
  clear hR
  go_enter Try.func61, Try.ntmps61
  go_wp2_with fail
  with_reducible refine HCON.out.mono ?_
  rintro e w1 ⟨⟨z, rfl, hz⟩, hk1⟩
  have HZ := Lib.hid hz
  clear hz
  by_cases h : 0 ≤ z
  · have hd : decide (0 ≤ z) = true := by simpa using h
    rw [hd] at HZ
    go_wp2_with fail
    go_ret
    exact ⟨ret_bool HZ.out, hk1⟩
  · have hd : decide (0 ≤ z) = false := by simpa using h
    rw [hd] at HZ
    go_wp2_with fail
    go_ret
    exact ⟨ret_bool HZ.out, hk1⟩

set_option maxRecDepth 100000 in
set_option maxHeartbeats 1000000 in
theorem least_any (m : RMedl) (w : World) (hm : m.In w) (h1 : 4 ≤ m.nodes) (h2 : m.nodes ≤ 8) (h3 : 0 ≤ m.drift) (h4 : m.drift ≤ 64) (h5 : 0 ≤ m.delay) (h6 : m.delay ≤ 64) (h7 : 0 ≤ m.window) (h8 : m.window ≤ 1048576)
    (h9 : 0 ≤ m.gap) (h10 : m.gap ≤ 1048576) :
    Calls Try.prog 65 #[m.val] w fun e w' => e = .returned (.tuple #[.int .i64 (16 * m.nodes * m.drift + 16), .int .i64 (2 * m.window + 2 * m.delay + 4), .int .i64 (2 * m.gap + m.mair)]) ∧ Keeps w w' := by
  have HM := Lib.hid hm
  clear hm
  have hnd : 0 ≤ m.nodes * m.drift := Int.mul_nonneg (by omega) h3
  have hnd2 : m.nodes * m.drift ≤ 8 * 64 := Int.mul_le_mul h2 h4 h3 (by omega)
  have hnd3 : 16 * m.nodes * m.drift = 16 * (m.nodes * m.drift) := Int.mul_assoc _ _ _
  have hair : 34 ≤ m.mair ∧ m.mair ≤ 4000 := mairI_le _ _
  obtain ⟨ca, cc, hcv, hc1, hc2, hc3⟩ := HM.out.c.shape
  clear hc3
  have HAIR := Lib.hid (mair_any m)
  obtain ⟨A, hA⟩ : ∃ A, A = m.mair := ⟨_, rfl⟩
  rw [← hA] at HAIR hair ⊢
  clear hA
  obtain ⟨no, sl, ga, wi, dr, de, cv, cs, ma, mn, mc, xs⟩ := m
  simp only at hcv h1 h2 h3 h4 h5 h6 h7 h8 h9 h10 hnd hnd2 hnd3 hc1 ⊢
  subst hcv
  have hw1 : IntKind.i64.wrap (16 * no) = 16 * no := by simp [IntKind.wrap, IntKind.bits, IntKind.signed]; omega
  have hw2 : IntKind.i64.wrap (16 * no * dr) = 16 * no * dr := by rw [hnd3]; simp [IntKind.wrap, IntKind.bits, IntKind.signed]; omega
  have hw3 : IntKind.i64.wrap (16 * no * dr + 16) = 16 * no * dr + 16 := by rw [hnd3]; simp [IntKind.wrap, IntKind.bits, IntKind.signed]; omega
  show Calls Try.prog 65 #[.agg #[.int .i64 no, .int .i64 sl, .int .i64 ga, .int .i64 wi, .int .i64 dr, .int .i64 de, .slice ca cs.length cc, .slice ma mn mc]] w _
  go_enter Try.func65, Try.ntmps65
  go_wp2_with fail
  have HB := Lib.hid (Box.new w 25 #[.int .i64 no, .int .i64 sl, .int .i64 ga, .int .i64 wi, .int .i64 dr, .int .i64 de, .slice ca cs.length cc, .slice ma mn mc])
  have HKA := Lib.hid ((Keeps.refl w).alloc (.cells #[.int .i64 no, .int .i64 sl, .int .i64 ga, .int .i64 wi, .int .i64 dr, .int .i64 de, .slice ca cs.length cc, .slice ma mn mc] 25))
  have c0 := HB.out.later 0 _ rfl
  have c1 := HB.out.later 1 _ rfl
  have c2 := HB.out.later 2 _ rfl
  have c3 := HB.out.later 3 _ rfl
  have c4 := HB.out.later 4 _ rfl
  have c5 := HB.out.later 5 _ rfl
  have c6 := HB.out.later 6 _ rfl
  have c7 := HB.out.later 7 _ rfl
  have hw4 : IntKind.i64.wrap (2 * ga) = 2 * ga := by simp [IntKind.wrap, IntKind.bits, IntKind.signed]; omega
  have hw5 : IntKind.i64.wrap (2 * ga + A) = 2 * ga + A := by simp [IntKind.wrap, IntKind.bits, IntKind.signed]; omega
  refine wp_region_later (by kernel_rfl) (by kernel_rfl) ?_
  repeat (go_big_quiet_step (first | (go_at_call 30; with_reducible exact Later.calls _ (HAIR.out _ (HM.out.keeps (HKA.out.trans (Later.keeps _)))))))
  refine wpQuiet_nil ?_
  rintro _ ⟨q, rfl⟩
  have HK := Lib.hid (HKA.out.trans q.keeps)
  have HBQ := Lib.hid (HB.out.keeps q.keeps)
  clear c0 c1 c2 c3 c4 c5 c6 c7
  go_wp2_with fail
  rw [hnd3]
  exact bodyPost_ret (by simp [results, Try.results65, go_sem]) rfl ⟨rfl, HK.out⟩
end Go.Proofs.Ytmjodcackmjllaa
