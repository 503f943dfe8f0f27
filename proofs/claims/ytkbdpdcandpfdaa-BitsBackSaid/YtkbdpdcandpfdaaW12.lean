/- The walks of the statements of layer 2: few, begun, CrcSums. -/
import Derived.Test.YtkbdpdcandpfdaaW11
namespace Go.Proofs.Ytkbdpdcandpfdaa
open Go.RowKit
set_option linter.unusedVariables false
set_option linter.unusedSimpArgs false

theorem few_any (a : Option Addr) (n cap : Nat) (w : World) (hn : n ≤ 9223372036854775807) :
    Calls Try.prog 15 #[.slice a n cap] w fun e w' => e = .returned (.bool (decide (n ≤ 20))) ∧ w' = w := by
  by_cases h : n ≤ 20
  · have hd : decide ((n : Int) ≤ 20) = true := by simp; omega
    go_enter Try.func15, Try.ntmps15
    go_wp2
    go_ret
    exact ⟨ret_bool (by simp [h]), rfl⟩
  · have hd : decide ((n : Int) ≤ 20) = false := by simp; omega
    go_enter Try.func15, Try.ntmps15
    go_wp2
    go_ret
    exact ⟨ret_bool (by simp; omega), rfl⟩

theorem RBs.nil (w : World) : RBs w none 0 0 [] := ⟨rfl, by decide, by decide, by decide, fun x hx => (by cases hx), fun i hi => absurd hi (by simp)⟩
theorem RBs.one {w : World} {b t : Nat} {x : RB} (hb : Box w b t #[.int .i64 x.n, .slice x.a x.len x.cap]) (hx : x.In w) : RBs w (some ⟨b, 0, none⟩) 1 1 [x] := by
  refine ⟨rfl, by decide, by decide, by decide, fun y hy => ?_, fun i hi => ?_⟩
  · simp only [List.mem_singleton] at hy; subst hy; exact hx
  · have : i = 0 := by simp at hi; exact hi
    subst this
    exact ⟨b, 0, rfl, hb.cell 0 _ rfl, hb.cell 1 _ rfl⟩
theorem RBs.two {w : World} {b t : Nat} {x y : RB} (hb : Box w b t #[.int .i64 x.n, .slice x.a x.len x.cap, .int .i64 y.n, .slice y.a y.len y.cap]) (hx : x.In w) (hy : y.In w) : RBs w (some ⟨b, 0, none⟩) 2 2 [x, y] := by
  refine ⟨rfl, by decide, by decide, by decide, fun z hz => ?_, fun i hi => ?_⟩
  · simp only [List.mem_cons, List.not_mem_nil, or_false] at hz
    rcases hz with rfl | rfl
    · exact hx
    · exact hy
  · match i, hi with
    | 0, _ => exact ⟨b, 0, rfl, hb.cell 0 _ rfl, hb.cell 1 _ rfl⟩
    | 1, _ => exact ⟨b, 0, rfl, hb.cell 2 _ rfl, hb.cell 3 _ rfl⟩
    | n + 2, hi => exact absurd hi (by simp)
theorem sumRes_one {x : RB} {w : World} {bs : List Bool} (h : x.Is w bs) : sumRes [x] = (crcOver 0 bs, 0) := by
  unfold sumRes
  have hc := h.chk
  simp only [List.all_cons, List.all_nil, hc, Bool.and_true, if_true, List.length_cons, List.length_nil, sumTo, List.take, List.foldl, h.bits]
theorem sumRes_nil : sumRes [] = (0, 0) := rfl

theorem begun_parse : parseErr ⟨#[48, 49]⟩ = 0 ∧ parseBits ⟨#[48, 49]⟩ = [false, true] := by decide +kernel
theorem begun_sum : crcOver 0 [false, true] = 6122955 := by decide +kernel

set_option maxHeartbeats 1000000 in
theorem begun2_any (w : World) :
    Calls Try.prog 14 #[] w fun e w' => e = .returned (.bool true) ∧ Keeps w w' := by
  go_enter Try.func14, Try.ntmps14
  go_wp2_with fail
  refine (rparse_any ⟨#[48, 49]⟩ _ (by decide)).mono ?_
  rw [begun_parse.1, begun_parse.2]
  rintro e w1 ⟨y, rfl, hy, -, hk1⟩
  have HY := Lib.hid hy
  have HK1 := Lib.hid hk1
  clear hy hk1
  obtain ⟨n, a, len, cap, l⟩ := y
  go_wp2_with fail
  have hbox := Box.new (w1.alloc (.cells #[.int .i64 n, .slice a len cap] 32)) 32 #[.int .i64 n, .slice a len cap]
  rw [World.size_alloc] at hbox
  with_reducible refine (sum_any _ 1 1 [⟨n, a, len, cap, l⟩] _ (by exact RBs.one hbox (HY.out.isIn.keeps (((Keeps.refl w1).alloc _).alloc _)))).mono ?_
  rw [sumRes_one HY.out, begun_sum]
  rintro e w2 ⟨rfl, hk2⟩
  have HK2 := Lib.hid (((HK1.out.alloc _).alloc _).trans hk2)
  clear hk2 hbox
  go_wp2_with fail
  with_reducible refine (sum_any _ 0 0 [] _ (by exact RBs.nil _)).mono ?_
  rw [sumRes_nil]
  rintro e w3 ⟨rfl, hk3⟩
  have HK3 := Lib.hid (HK2.out.trans hk3)
  clear hk3
  go_wp2_with fail
  go_ret
  exact ⟨rfl, HK3.out⟩

set_option maxHeartbeats 1000000 in
theorem crcSums_any (a : Option Addr) (n cap : Nat) (xs : List RB) (w : World) (hx : n ≤ 20 → RBs w a n cap xs) (hn : n ≤ 9223372036854775807) :
    Calls Try.prog 3 #[.slice a n cap] w fun e w' => e = .returned (.bool true) ∧ Keeps w w' := by
  have HX := Lib.hid hx
  clear hx
  by_cases h : n ≤ 20
  all_goals
    go_enter Try.func3, Try.ntmps3
    go_wp2_with fail
    refine (begun2_any _).mono ?_
    rintro e w1 ⟨rfl, hk1⟩
    have HK1 := Lib.hid hk1
    clear hk1
    go_wp2_with fail
    refine (few_any a n cap _ hn).mono ?_
    rintro e w' ⟨rfl, rfl⟩
  · rw [show decide (n ≤ 20) = true from by simpa using h]
    go_wp2_with fail
    with_reducible refine (sum_any a n cap xs _ (by exact (HX.out h).keeps HK1.out)).mono ?_
    rintro e w2 ⟨rfl, hk2⟩
    have HK2 := Lib.hid (HK1.out.trans hk2)
    clear hk2
    go_wp2_with fail
    with_reducible refine (rsum_any a n cap xs _ (by exact (HX.out h).keeps HK2.out)).mono ?_
    rintro e w3 ⟨rfl, hk3⟩
    have HK3 := Lib.hid (HK2.out.trans hk3)
    clear hk3
    go_wp2_with fail
    go_ret
    exact ⟨ret_bool (by simp), HK3.out⟩
  · rw [show decide (n ≤ 20) = false from by simpa using h]
    go_wp2_with fail
    refine (begun2_any _).mono ?_
    rintro e w2 ⟨rfl, hk2⟩
    have HK2 := Lib.hid (HK1.out.trans hk2)
    clear hk2
    go_wp2_with fail
    go_ret
    exact ⟨rfl, HK2.out⟩
end Go.Proofs.Ytkbdpdcandpfdaa
