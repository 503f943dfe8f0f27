/- The walk of law 7's begun. -/
import Derived.Test.YtmjodcackmjllaaN1
import Derived.Test.YtmjodcackmjllaaN6
namespace Go.Proofs.Ytmjodcackmjllaa
open Go.RowKit Go.Shelf
set_option linter.unusedVariables false
set_option linter.unusedSimpArgs false
theorem medlOk_plain {n dr : Int} {w : World} {m : RMedl} (h : PlainM n dr w m) (h1 : 4 ≤ n) (h2 : n ≤ 8) (h3 : 0 ≤ dr) (h4 : dr ≤ 64) : medlOk m = true := by
  have hair : 34 ≤ m.mair ∧ m.mair ≤ 4000 := mairI_le _ _
  have e1 := h.nodes
  have e2 := h.drift
  have e3 := h.delay
  have e4 := h.window
  have e5 := h.gap
  have e6 := h.slot
  have e7 := h.cs
  obtain ⟨x, e8, x1, x2, x3⟩ := h.xs
  have hp : 0 ≤ n * dr := Int.mul_nonneg (by omega) h3
  have hp2 : n * dr ≤ 8 * 64 := Int.mul_le_mul h2 h4 h3 (by omega)
  rw [Int.mul_assoc] at e4
  have hn : ((n.toNat : Nat) : Int) = n := Int.toNat_of_nonneg (by omega)
  refine (medlOk_iff m).2 ⟨(countsOk_iff m).2 ⟨by omega, by omega, by rw [e8, List.length_singleton]; decide, by rw [e8, List.length_singleton]; decide, by rw [e7, List.length_replicate]; omega, ?_⟩, modesOk_yes m ?_, (numsOk_iff m).2 ?_⟩
  · rw [e7, List.length_replicate]
    unfold truesTo
    rw [List.take_replicate, Nat.min_self, List.filter_replicate]
    simp
    omega
  · intro y hy
    rw [e8, List.mem_singleton] at hy
    subst hy
    unfold modeOk
    rw [decide_eq_true, decide_eq_true]
    · rfl
    · intro k hk
      rw [x1, List.length_replicate] at hk
      refine ⟨?_, fun _ => ?_⟩
      · rw [x1, List.getD_eq_getElem?_getD, List.getElem?_replicate, if_pos hk]; rfl
      · rw [x2, List.getD_eq_getElem?_getD, List.getElem?_replicate, if_pos hk]; rfl
    · rw [x1, x2, x3, List.length_replicate, List.length_replicate, e1, e8]
      exact ⟨hn, hn, rfl⟩
  · rw [e1, e2, Int.mul_assoc]
    omega
set_option maxRecDepth 100000 in
set_option maxHeartbeats 2000000 in
theorem begun7_any (w : World) :
    Calls Try.prog 20 #[] w fun e w' => e = .returned (.bool true) ∧ Keeps w w' := by
  go_enter Try.func20, Try.ntmps20
  go_wp2_with fail
  with_reducible refine (plain4_any _).mono ?_
  rintro e w1 ⟨m, rfl, hm, hk1⟩
  have hok := medlOk_plain hm (by decide) (by decide) (by decide) (by decide)
  have HI := Lib.hid hm.isIn
  have hair : 34 ≤ m.mair ∧ m.mair ≤ 4000 := mairI_le _ _
  have e1 := hm.nodes
  have e4 := hm.window
  have e5 := hm.gap
  have e6 := hm.slot
  rw [e5, e4, hm.delay] at e6
  rw [e4, hm.delay] at e5
  have HBO : Hid (∀ w', m.In w' → Calls Try.prog 47 #[m.val] w' fun e w'' => e = .returned (.tuple #[.int .i64 160, .int .i64 0]) ∧ Keeps w' w'') := Lib.hid (fun w' hi => by
    have h := bound_any m w' hi
    unfold boundRes at h
    rw [hok, e1] at h
    exact h)
  have HCH : Hid (∀ w', m.In w' → Calls Try.prog 21 #[m.val] w' fun e w'' => e = .returned (.int .i64 0) ∧ Keeps w' w'') := Lib.hid (fun w' hi => by
    have h := mcheck_any m w' hi
    unfold medlErr at h
    rw [hok] at h
    exact h)
  have HAI := Lib.hid (mair_any m)
  clear hm hok
  have HK := Lib.hid hk1
  clear hk1
  obtain ⟨A, hA⟩ : ∃ A, A = m.mair := ⟨_, rfl⟩
  rw [← hA] at HAI hair e6
  clear hA
  obtain ⟨ca, cc, hcv, hc1, hc2, hc3⟩ := HI.out.c.shape
  clear hc3
  obtain ⟨no, sl, ga, wi, dr, de, cv, cs, ma, mn, mc, xs⟩ := m
  simp only at hcv hc1 e1 e4 e5 e6
  have e4' : wi = 16 := by rw [e4]; rfl
  have e5' : ga = 38 := by rw [e5]; rfl
  have e6' : sl = 76 + A := by rw [e6]; omega
  clear e4 e5 e6
  subst hcv e1 e4' e5' e6'
  go_wp2_with fail
  with_reducible refine (HBO.out _ (by exact HI.out.keeps ((Keeps.refl w1).alloc _))).mono ?_
  rintro e w2 ⟨rfl, hk2⟩
  have HB := Lib.hid ((Box.new w1 25 #[.int .i64 4, .int .i64 (76 + A), .int .i64 38, .int .i64 16, .int .i64 dr, .int .i64 de, .slice ca cs.length cc, .slice ma mn mc]).keeps hk2)
  replace HI := Lib.hid ((HI.out.keeps ((Keeps.refl w1).alloc (.cells #[.int .i64 4, .int .i64 (76 + A), .int .i64 38, .int .i64 16, .int .i64 dr, .int .i64 de, .slice ca cs.length cc, .slice ma mn mc] 25))).keeps hk2)
  replace HK := Lib.hid ((HK.out.alloc _).trans hk2)
  clear hk2 HBO
  have m0 := HB.out.cell 0 _ rfl
  have m1 := HB.out.cell 1 _ rfl
  have m2 := HB.out.cell 2 _ rfl
  have m3 := HB.out.cell 3 _ rfl
  have m4 := HB.out.cell 4 _ rfl
  have m5 := HB.out.cell 5 _ rfl
  have m6 := HB.out.cell 6 _ rfl
  have m7 := HB.out.cell 7 _ rfl
  have ml := HB.out.lt
  go_wp2_with fail
  have c0 := HB.out.later 0 _ rfl
  have c1 := HB.out.later 1 _ rfl
  have c2 := HB.out.later 2 _ rfl
  have c3 := HB.out.later 3 _ rfl
  have c4 := HB.out.later 4 _ rfl
  have c5 := HB.out.later 5 _ rfl
  have c6 := HB.out.later 6 _ rfl
  have c7 := HB.out.later 7 _ rfl
  have hw : IntKind.i64.wrap (76 + A) = 76 + A := by simp [IntKind.wrap, IntKind.bits, IntKind.signed]; omega
  clear m0 m1 m2 m3 m4 m5 m6 m7 ml
  refine wp_region_later (by kernel_rfl) (by kernel_rfl) ?_
  repeat (go_big_quiet_step (first
    | (go_at_call 21; with_reducible exact Later.calls _ (HCH.out _ (HI.out.keeps (Later.keeps _))))
    | (go_at_call 30; with_reducible exact Later.calls _ (HAI.out _ (HI.out.keeps (Later.keeps _))))))
  refine wpQuiet_nil ?_
  rintro _ ⟨q, rfl⟩
  have HKK := Lib.hid (HK.out.trans q.keeps)
  clear c0 c1 c2 c3 c4 c5 c6 c7
  go_wp2_with fail
  go_ret
  exact ⟨rfl, HKK.out⟩
end Go.Proofs.Ytmjodcackmjllaa
