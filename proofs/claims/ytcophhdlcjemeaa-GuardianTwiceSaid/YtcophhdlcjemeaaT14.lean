/- The walk of GuardianTwice. -/
import Derived.Test.YtcophhdlcjemeaaT13
import Derived.Test.YtcophhdlcjemeaaM15
namespace Go.Proofs.Ytcophhdlcjemeaa
open Go.RowKit
set_option linter.unusedVariables false
set_option linter.unusedSimpArgs false
set_option maxRecDepth 100000 in
set_option maxHeartbeats 1000000 in
theorem guardianTwice_any (o1 o2 : Int) (a : Option Addr) (n cap : Nat) (xs : List RSig) (w : World) (hx : RSs w a n cap xs) :
    Calls Try.prog 11 #[.agg #[.int .i64 o1, .int .i64 o2], .slice a n cap] w fun e w' => e = .returned (.bool true) ∧ Keeps w w' := by
  have hcap := hx.hcap
  have hmax := hx.hmax
  have HX := Lib.hid (hx.take (min n 60) (Nat.min_le_left _ _))
  clear hx
  have hm : min n 60 ≤ 60 := Nat.min_le_right _ _
  have HB := Lib.hid (Box.new w 30 #[.int .i64 o1, .int .i64 o2])
  have HK := Lib.hid ((Keeps.refl w).alloc (.cells #[.int .i64 o1, .int .i64 o2] 30))
  go_enter Try.func11, Try.ntmps11
  go_wp2_with fail
  refine wp_region_quiet_tail_lit 3 (by kernel_rfl) (by kernel_rfl) ?_
  dsimp only [List.take, List.drop]
  repeat (go_big_quiet_step ((go_at_call 49; exact Calls.quiet_of_same (few20_any a n cap _ hcap hmax))))
  refine wpQuiet_nil ?_
  rintro _ ⟨nq, rfl⟩
  obtain ⟨m, hmm⟩ : ∃ m, m = min n 60 := ⟨_, rfl⟩
  rw [← hmm] at HX hm ⊢
  clear hmm
  replace HB := Lib.hid (HB.out.keeps ((Keeps.refl _).drewN nq))
  replace HK := Lib.hid (HK.out.drewN nq)
  have b0 := HB.out.cell 0 _ rfl
  have b1 := HB.out.cell 1 _ rfl
  have bl := HB.out.lt
  go_wp2_with fail
  (with_reducible refine (all_any o1 o2 a m cap (xs.take m) _ (by exact HX.out.keeps HK.out) hm).mono ?_)
  rintro e w1 ⟨v, ys, rfl, ho, hp, hk1⟩
  have HP := Lib.hid hp
  obtain ⟨a2, cap2, rfl, hrs⟩ := ho.shape
  have HR := Lib.hid hrs
  have hyl : ys.length ≤ 60 := by
    have h1 := congrArg List.length hp
    have h2 := List.length_filterMap_le (passP o1 o2) (xs.take m)
    rw [List.length_map] at h1
    have h3 := HX.out.len
    omega
  replace HB := Lib.hid (HB.out.keeps hk1)
  replace HK := Lib.hid (HK.out.trans hk1)
  clear hk1 ho hp hrs b0 b1 bl
  have b0 := HB.out.cell 0 _ rfl
  have b1 := HB.out.cell 1 _ rfl
  have bl := HB.out.lt
  go_wp2_with fail
  (with_reducible refine (begun20_any _).mono ?_)
  rintro e w2 ⟨rfl, hk1⟩
  replace HR := Lib.hid (HR.out.keeps hk1)
  replace HB := Lib.hid (HB.out.keeps hk1)
  replace HK := Lib.hid (HK.out.trans hk1)
  clear hk1 b0 b1 bl
  have b0 := HB.out.cell 0 _ rfl
  have b1 := HB.out.cell 1 _ rfl
  have bl := HB.out.lt
  go_wp2_with fail
  (with_reducible refine (all_any o1 o2 a2 ys.length cap2 ys _ (by exact HR.out) hyl).mono ?_)
  rintro e w3 ⟨v, zs, rfl, ho, hp, hk1⟩
  have HS : Hid (sigsSame zs ys = true) := Lib.hid (decide_eq_true (by rw [hp]; exact list_again _ _ HP.out))
  obtain ⟨a3, cap3, rfl, hrs⟩ := ho.shape
  have HR3 := Lib.hid hrs
  replace HR := Lib.hid (HR.out.keeps hk1)
  replace HB := Lib.hid (HB.out.keeps hk1)
  replace HK := Lib.hid (HK.out.trans hk1)
  clear hk1 ho hp hrs b0 b1 bl
  go_wp2_with fail
  (with_reducible refine (rsame20_any a3 zs.length cap3 zs a2 ys.length cap2 ys _ (by exact HR3.out) (by exact HR.out)).mono ?_)
  rw [HS.out]
  rintro e w4 ⟨rfl, hk1⟩
  replace HK := Lib.hid (HK.out.trans hk1)
  clear hk1
  go_wp2_with fail
  go_ret
  exact ⟨rfl, HK.out⟩
end Go.Proofs.Ytcophhdlcjemeaa
