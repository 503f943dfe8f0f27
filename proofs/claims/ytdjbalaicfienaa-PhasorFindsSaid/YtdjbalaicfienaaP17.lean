/- The walk of PhasorFinds. -/
import Derived.Test.YtdjbalaicfienaaP16
import Derived.Test.YtdjbalaicfienaaP12
import Derived.Test.YtdjbalaicfienaaP9
namespace Go.Proofs.Ytdjbalaicfienaa
open Go.RowKit
set_option linter.unusedVariables false
set_option linter.unusedSimpArgs false
set_option maxRecDepth 100000 in
set_option maxHeartbeats 4000000 in
theorem phasorFinds_any (a : Option Addr) (n cap : Nat) (xs : List Smp) (at_ : Int) (w : World) (hx : SRow w a n cap xs) (hat : -9223372036854775808 ≤ at_) :
    Calls Try.prog 10 #[.slice a n cap, .int .i64 at_] w fun e w' => e = .returned (.bool true) ∧ Keeps w w' := by
  have HX := Lib.hid hx
  have hlen := hx.len
  have hfew := fewB_iff [⟨a, cap, xs⟩]
  clear hx
  go_enter Try.func10, Try.ntmps10
  go_wp2_with fail
  with_reducible refine (begun3_any _).mono ?_
  rintro e w1 ⟨rfl, hk1⟩
  have HK := Lib.hid hk1
  clear hk1
  go_wp2_with fail
  with_reducible refine (few_any (some ⟨w1.heap.size, 0, none⟩) 1 1 [⟨a, cap, xs⟩] _ (by exact SRs.one (HX.out.keeps (HK.out.alloc _)) (Box.new _ _ _))).mono ?_
  rintro e w2 ⟨rfl, rfl⟩
  cases hf : fewB [⟨a, cap, xs⟩]
  · clear hf hfew
    go_wp2_with fail
    with_reducible refine (begun3_any _).mono ?_
    rintro e w3 ⟨rfl, hk3⟩
    go_wp2_with fail
    go_ret
    exact ⟨rfl, (HK.out.alloc _).trans hk3⟩
  have hn5 : n ≤ 5000 := by
    have := (hfew hf).2 _ (List.mem_singleton.2 rfl)
    simp only at this
    omega
  replace HK := Lib.hid (HK.out.alloc (.cells #[.slice a n cap] 52))
  obtain ⟨W, hW⟩ : ∃ W, W = w1.alloc (.cells #[.slice a n cap] 52) := ⟨_, rfl⟩
  rw [← hW] at HK ⊢
  clear hf hfew hW
  obtain ⟨⟨⟨pi, pq⟩, N, I⟩, hM⟩ : ∃ M, M = matchRes xs at_ := ⟨_, rfl⟩
  have HM := Lib.hid hM
  obtain ⟨⟨P, Q, E⟩, hF⟩ : ∃ M, M = findRes xs at_ := ⟨_, rfl⟩
  have HF := Lib.hid hF
  clear hM hF
  go_wp2_with fail
  with_reducible refine (match_any a n cap xs at_ _ (by exact HX.out.keeps HK.out) (by omega) hat).mono ?_
  rw [← HM.out]
  rintro e w7 ⟨rfl, hk7⟩
  replace HK := Lib.hid (HK.out.trans hk7)
  clear hk7
  go_wp2_with fail
  have HB1 := Lib.hid (Box.new w7 63 #[.int .i64 pi, .int .i64 pq])
  replace HK := Lib.hid (HK.out.alloc (.cells #[.int .i64 pi, .int .i64 pq] 63))
  with_reducible refine (rmatch_any a n cap xs at_ _ (by exact HX.out.keeps HK.out) (by omega) hat).mono ?_
  rw [← HM.out]
  rintro e w8 ⟨rfl, hk8⟩
  replace HK := Lib.hid (HK.out.trans hk8)
  replace HB1 := Lib.hid (HB1.out.keeps hk8)
  clear hk8
  go_wp2_with fail
  have HB2 := Lib.hid (Box.new w8 63 #[.int .i64 pi, .int .i64 pq])
  replace HB1 := Lib.hid (HB1.out.next (.cells #[.int .i64 pi, .int .i64 pq] 63))
  replace HK := Lib.hid (HK.out.alloc (.cells #[.int .i64 pi, .int .i64 pq] 63))
  with_reducible refine (find_any a n cap xs at_ _ (by exact HX.out.keeps HK.out) (by omega) hat).mono ?_
  rw [← HF.out]
  rintro e w9 ⟨rfl, hk9⟩
  replace HK := Lib.hid (HK.out.trans hk9)
  replace HB1 := Lib.hid (HB1.out.keeps hk9)
  replace HB2 := Lib.hid (HB2.out.keeps hk9)
  clear hk9
  go_wp2_with fail
  with_reducible refine (rfind_any a n cap xs at_ _ (by exact HX.out.keeps HK.out) (by omega) hat).mono ?_
  rw [← HF.out]
  rintro e w10 ⟨rfl, hk10⟩
  replace HK := Lib.hid (HK.out.trans hk10)
  replace HB1 := Lib.hid (HB1.out.keeps hk10)
  replace HB2 := Lib.hid (HB2.out.keeps hk10)
  clear hk10
  have c0 := HB1.out.cell 0 _ rfl
  have c1 := HB1.out.cell 1 _ rfl
  have d0 := HB2.out.cell 0 _ rfl
  have d1 := HB2.out.cell 1 _ rfl
  go_wp2_with fail
  go_ret
  exact ⟨rfl, HK.out⟩
end Go.Proofs.Ytdjbalaicfienaa
