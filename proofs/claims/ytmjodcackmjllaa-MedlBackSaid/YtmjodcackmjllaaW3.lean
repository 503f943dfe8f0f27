/- The walks of package bits, 3: Get. -/
import Derived.Test.YtmjodcackmjllaaW1
import Derived.Test.YtmjodcackmjllaaPlainNum
namespace Go.Proofs.Ytmjodcackmjllaa
open Go.RowKit
set_option linter.unusedVariables false
set_option linter.unusedSimpArgs false

theorem int_val {k : IntKind} {a b : Int} (h : a = b) : Value.int k a = Value.int k b := by rw [h]
theorem or_one_u64 (v : Nat) (h : v < 9223372036854775808) : bits .or .u64 ((v : Int) * 2) 1 = 2 * (v : Int) + 1 := by
  have e : ((v : Int) * 2) = ((2 * v : Nat) : Int) := by omega
  rw [e, show (1 : Int) = ((1 : Nat) : Int) from rfl, u64_or_nat _ _ (by omega) (by decide)]
  have : 2 * v ||| 1 = 2 * v + 1 := by
    have := nat_join 1 (2 * v) 1 (by omega) (by decide)
    simpa using this
  rw [this]
  omega

set_option maxHeartbeats 400000 in
set_option maxRecDepth 100000 in
theorem get_ok (x : RB) (bs : List Bool) (at_ width : Nat) (av wv : Int) (w : World) (hav : av = at_) (hwv : wv = width) (hx : x.Is w bs) (h1 : width ≤ 64) (h2 : at_ + width ≤ bs.length) :
    Calls Try.prog 103 #[x.val, .int .i64 av, .int .i64 wv] w fun e w' => e = .returned (.tuple #[.int .u64 (getTo bs at_ width), .int .i64 0]) ∧ Keeps w w' := by
  subst hav hwv
  have hmost := hx.most
  have HC := Lib.hid hx.chk
  have hin := hx.isIn
  obtain ⟨a, cap, rfl⟩ := hx.shape
  have HX := Lib.hid hx
  clear hx
  show Calls Try.prog 103 #[.agg #[.int .i64 bs.length, .slice a ((bs.length + 7) / 8) cap], .int .i64 at_, .int .i64 width] w _
  go_enter Try.func103, Try.ntmps103
  go_wp2_with fail
  with_reducible refine (check_yes ⟨bs.length, a, (bs.length + 7) / 8, cap, pack bs⟩ _ (by exact hin.keeps ((Keeps.refl w).alloc _)) HC.out).mono ?_
  rintro e w1 ⟨rfl, hk1⟩
  obtain ⟨hc1, hf1⟩ := hk1.rules
  have hs1 := hk1.size
  simp only [World.size_alloc] at hs1
  have hz1 : w.heap.size < w1.heap.size := by omega
  have hd1 : decide ((width : Int) < 0) = false := by simp
  have hd2 : decide ((64 : Int) < width) = false := by simp; omega
  have hd3 : decide ((at_ : Int) < 0) = false := by simp
  have hd4 : decide ((bs.length : Int) < at_) = false := by simp; omega
  have hd6 : decide (bs.length < at_) = false := by simp; omega
  have hd5 : decide ((bs.length : Int) - at_ < width) = false := by simp; omega
  go_wp2_with fail
  have HK := Lib.hid hk1.unbox
  have hb0 := hk1.box 0 _ rfl
  have hb1 := hk1.box 1 _ rfl
  clear hk1 hc1 hf1 hd1 hd2 hd3 hd4 hd5 hd6
  go_loopw [8, 40] (fun v i wr => ∃ k : Nat, k ≤ width ∧ i = .int .i64 k ∧ v = .int .u64 (getTo bs at_ k) ∧ wr.cell? ⟨w.heap.size, 0, none⟩ = some (.int .i64 bs.length) ∧
      wr.cell? ⟨w.heap.size, 1, none⟩ = some (.slice a ((bs.length + 7) / 8) cap) ∧ w.heap.size < wr.heap.size ∧ Hid (Keeps w wr)) (fun _ i _ => width - (intOf i).toNat)
  case atStart => exact ⟨0, Nat.zero_le _, rfl, by rw [getTo_zero]; rfl, hb0, hb1, hz1, HK⟩
  case round =>
    clear hb0 hb1 hz1 hs1 HK
    obtain ⟨k, hk, rfl, rfl, hb0, hb1, hzr, hkr⟩ := hrel
    by_cases hlt : k < width
    · have hv := getTo_lt63 bs at_ k (by omega)
      have HS := Lib.hid (getTo_succ bs at_ k (by omega))
      have HO := Lib.hid (or_one_u64 (getTo bs at_ k) hv)
      cases hbb : bs.getD (at_ + k) false
      all_goals
        have HB := Lib.hid hbb
        clear hbb
        go_wp2_with fail
        with_reducible refine (has_ok ⟨bs.length, a, (bs.length + 7) / 8, cap, pack bs⟩ bs _ (at_ + k) _ _ (by omega) HB.out (by exact HX.out.keeps hkr.out) (by omega)).mono ?_
        rintro e w2 ⟨rfl, hk2⟩
        have hb0' := hk2.later hb0
        have hb1' := hk2.later hb1
        have hz2 := hk2.size
        have HK2 := Lib.hid (hkr.out.trans hk2)
        clear hk2
        go_wp2_with fail
        go_roundw
        case rel => exact ⟨k + 1, by omega, by go_num, by rw [HS.out, HB.out]; first | (rw [HO.out]; exact int_val (by simp)) | exact int_val (by simp; omega), hb0', hb1', by omega, HK2⟩
        case measure => simp [intOf]; omega
    · obtain rfl : k = width := by omega
      go_wp2_with fail
      go_ret2
      exact ⟨rfl, hkr.out⟩

set_option maxHeartbeats 400000 in
theorem get_bad (x : RB) (av wv : Int) (w : World) (hx : x.In w) (hc : chk x.n x.l = false) :
    Calls Try.prog 103 #[x.val, .int .i64 av, .int .i64 wv] w fun e w' => e = .returned (.tuple #[.int .u64 0, .int .i64 10]) ∧ Keeps w w' := by
  have HX := Lib.hid hx
  have HC := Lib.hid hc
  clear hx hc
  obtain ⟨n, a, len, cap, l⟩ := x
  show Calls Try.prog 103 #[.agg #[.int .i64 n, .slice a len cap], .int .i64 av, .int .i64 wv] w _
  go_enter Try.func103, Try.ntmps103
  go_wp2_with fail
  with_reducible refine (check_no ⟨n, a, len, cap, l⟩ _ (by exact HX.out.keeps ((Keeps.refl w).alloc _)) HC.out).mono ?_
  rintro e w1 ⟨rfl, hk1⟩
  go_wp2_with fail
  go_ret2
  exact ⟨rfl, hk1.unbox⟩
/-- may a place and a width be? -/
def argOk (n at_ width : Int) : Bool := decide (0 ≤ width) && (decide (width ≤ 64) && (decide (0 ≤ at_) && (decide (at_ ≤ n) && decide (width ≤ n - at_))))
set_option maxHeartbeats 1000000 in
theorem get_arg (x : RB) (av wv : Int) (w : World) (hx : x.In w) (hc : chk x.n x.l = true) (ha : argOk x.n av wv = false) (hb1 : -9223372036854775808 ≤ av) (hb2 : av ≤ 9223372036854775807) :
    Calls Try.prog 103 #[x.val, .int .i64 av, .int .i64 wv] w fun e w' => e = .returned (.tuple #[.int .u64 0, .int .i64 2]) ∧ Keeps w w' := by
  have HX := Lib.hid hx
  have HC := Lib.hid hc
  obtain ⟨p0, p1, -, -⟩ := chk_parts hc
  clear hx hc
  obtain ⟨n, a, len, cap, l⟩ := x
  simp only at p0 p1 ha
  simp only [argOk, Bool.and_eq_false_iff, decide_eq_false_iff_not] at ha
  show Calls Try.prog 103 #[.agg #[.int .i64 n, .slice a len cap], .int .i64 av, .int .i64 wv] w _
  by_cases h1 : wv < 0
  · have hd1 : decide (wv < 0) = true := by simpa using h1
    clear ha
    go_enter Try.func103, Try.ntmps103
    go_wp2_with fail
    with_reducible refine (check_yes ⟨n, a, len, cap, l⟩ _ (by exact HX.out.keeps ((Keeps.refl w).alloc _)) HC.out).mono ?_
    rintro e w1 ⟨rfl, hk1⟩
    go_wp2_with fail
    go_ret2
    exact ⟨rfl, hk1.unbox⟩
  have hd1 : decide (wv < 0) = false := by simpa using h1
  by_cases h2 : 64 < wv
  · have hd2 : decide (64 < wv) = true := by simpa using h2
    clear ha
    go_enter Try.func103, Try.ntmps103
    go_wp2_with fail
    with_reducible refine (check_yes ⟨n, a, len, cap, l⟩ _ (by exact HX.out.keeps ((Keeps.refl w).alloc _)) HC.out).mono ?_
    rintro e w1 ⟨rfl, hk1⟩
    go_wp2_with fail
    go_ret2
    exact ⟨rfl, hk1.unbox⟩
  have hd2 : decide (64 < wv) = false := by simpa using h2
  by_cases h3 : av < 0
  · have hd3 : decide (av < 0) = true := by simpa using h3
    clear ha
    go_enter Try.func103, Try.ntmps103
    go_wp2_with fail
    with_reducible refine (check_yes ⟨n, a, len, cap, l⟩ _ (by exact HX.out.keeps ((Keeps.refl w).alloc _)) HC.out).mono ?_
    rintro e w1 ⟨rfl, hk1⟩
    go_wp2_with fail
    go_ret2
    exact ⟨rfl, hk1.unbox⟩
  have hd3 : decide (av < 0) = false := by simpa using h3
  by_cases h4 : n < av
  · have hd4 : decide (n < av) = true := by simpa using h4
    clear ha
    go_enter Try.func103, Try.ntmps103
    go_wp2_with fail
    with_reducible refine (check_yes ⟨n, a, len, cap, l⟩ _ (by exact HX.out.keeps ((Keeps.refl w).alloc _)) HC.out).mono ?_
    rintro e w1 ⟨rfl, hk1⟩
    have hb0 := hk1.box 0 _ rfl
    go_wp2_with fail
    go_ret2
    exact ⟨rfl, hk1.unbox⟩
  have hd4 : decide (n < av) = false := by simpa using h4
  have h5 : n - av < wv := by omega
  have hd5 : decide (n - av < wv) = true := by simpa using h5
  clear ha
  go_enter Try.func103, Try.ntmps103
  go_wp2_with fail
  with_reducible refine (check_yes ⟨n, a, len, cap, l⟩ _ (by exact HX.out.keeps ((Keeps.refl w).alloc _)) HC.out).mono ?_
  rintro e w1 ⟨rfl, hk1⟩
  have hb0 := hk1.box 0 _ rfl
  go_wp2_with fail
  go_ret2
  exact ⟨rfl, hk1.unbox⟩
end Go.Proofs.Ytmjodcackmjllaa
