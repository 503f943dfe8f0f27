/- The walks of package bits, 1: need, mask, has, Check. -/
import Derived.Test.YtmjodcackmjllaaRows
import Derived.Test.YtmjodcackmjllaaBase
import Derived.Deep.QuietTactic
import Derived.BigQuiet
namespace Go.Proofs.Ytmjodcackmjllaa
open Go.RowKit
set_option linter.unusedVariables false
set_option linter.unusedSimpArgs false

theorem need_any (n : Int) (w : World) (h0 : 0 ≤ n) (h1 : n ≤ 9223372036854775800) :
    Calls Try.prog 115 #[.int .i64 n] w fun e w' => e = .returned (.int .i64 ((n + 7) / 8)) ∧ w' = w := by
  go_enter Try.func115, Try.ntmps115
  go_wp2
  go_ret
  exact ⟨rfl, rfl⟩

/-- the bit of a place within its byte -/
def maskN (i : Nat) : Nat := 2 ^ (7 - i % 8)
theorem mask_eq (i : Nat) : (128 : Int) / 2 ^ (i % 8) = (maskN i : Int) := by
  unfold maskN
  have : i % 8 = 0 ∨ i % 8 = 1 ∨ i % 8 = 2 ∨ i % 8 = 3 ∨ i % 8 = 4 ∨ i % 8 = 5 ∨ i % 8 = 6 ∨ i % 8 = 7 := by omega
  rcases this with h | h | h | h | h | h | h | h <;> rw [h] <;> rfl
theorem ret_int {k : IntKind} {a b : Int} (h : a = b) : Ending.returned (.int k a) = .returned (.int k b) := by rw [h]
theorem ret_bool {a b : Bool} (h : a = b) : Ending.returned (.bool a) = .returned (.bool b) := by rw [h]
theorem mask_any (i : Nat) (w : World) (h1 : i ≤ 9223372036854775807) :
    Calls Try.prog 117 #[.int .i64 i] w fun e w' => e = .returned (.int .u8 (maskN i : Int)) ∧ w' = w := by
  go_enter Try.func117, Try.ntmps117
  go_wp2
  go_ret
  exact ⟨ret_int (mask_eq i), rfl⟩

theorem and_pow_ne (x i : Nat) (hx : x < 256) : (bits .and .u8 (x : Int) (maskN i : Int) != 0) = x.testBit (7 - i % 8) := by
  unfold maskN
  rw [u8_and_nat _ _ hx (pow_lt_256 i), nat_bit]
  rw [Nat.testBit_eq_decide_div_mod_eq]
  have hp : 0 < 2 ^ (7 - i % 8) := Nat.pow_pos (by decide)
  have h2 : x / 2 ^ (7 - i % 8) % 2 = 0 ∨ x / 2 ^ (7 - i % 8) % 2 = 1 := by omega
  rcases h2 with h | h
  · rw [h]; simp
  · rw [h]
    simp only [Nat.one_mul, decide_true, bne_iff_ne, ne_eq]
    omega

set_option maxHeartbeats 400000 in
theorem has_any (x : RB) (iv : Int) (i : Nat) (w : World) (hiv : iv = i) (hx : x.In w) (hi : i / 8 < x.len) (hm : i ≤ 9223372036854775807) :
    Calls Try.prog 113 #[x.val, .int .i64 iv] w fun e w' => e = .returned (.bool (bitAt x.l i)) ∧ Keeps w w' := by
  subst hiv
  obtain ⟨b, off, ha, hc, hb⟩ := hx.row.addr (by omega)
  have hby := getD_lt hx.byte (i / 8)
  obtain ⟨n, a, len, cap, l⟩ := x
  simp only at ha hc hi hby
  subst ha
  have hcell := hc _ hi
  have hcap := hx.cap
  have hmax := hx.max
  simp only at hcap hmax
  clear hc hx
  obtain ⟨v, hv⟩ : ∃ v, v = l.getD (i / 8) 0 := ⟨_, rfl⟩
  have HV := Lib.hid hv
  rw [← hv] at hcell hby
  clear hv
  show Calls Try.prog 113 #[.agg #[.int .i64 n, .slice (some ⟨b, off, none⟩) len cap], .int .i64 i] w _
  go_enter Try.func113, Try.ntmps113
  go_wp2
  go_quiet ((go_at_call 117; exact Calls.quiet_of_same (mask_any _ _ (by omega))))
  go_wp2
  go_ret
  refine ⟨ret_bool ?_, ((Keeps.refl _).alloc _).drewN _⟩
  rw [and_pow_ne _ _ hby]
  unfold bitAt
  rw [HV.out]

theorem has_ok (x : RB) (bs : List Bool) (iv : Int) (i : Nat) (b : Bool) (w : World) (hiv : iv = i) (hb : bs.getD i false = b) (hx : x.Is w bs) (hi : i < bs.length) :
    Calls Try.prog 113 #[x.val, .int .i64 iv] w fun e w' => e = .returned (.bool b) ∧ Keeps w w' := by
  have h := has_any x iv i w hiv hx.isIn (by have := hx.len; omega) (by have := hx.most; omega)
  rw [hx.l, bitAt_pack, hb] at h
  exact h

set_option maxHeartbeats 400000 in
theorem check_ok0 (n : Int) (a : Option Addr) (len cap : Nat) (w : World) (h : 0 ≤ n) (h' : n ≤ 4096) (hl : ((len : Int) != (n + 7) / 8) = false) (hr : (n % 8 != 0) = false) :
    Calls Try.prog 108 #[.agg #[.int .i64 n, .slice a len cap]] w fun e w' => e = .returned (.int .i64 0) ∧ Keeps w w' := by
  have hd1 : decide (n < 0) = false := by simp; omega
  have hd2 : decide (4096 < n) = false := by simp; omega
  go_enter Try.func108, Try.ntmps108
  go_wp2
  go_quiet ((go_at_call 115; exact Calls.quiet_of_same (need_any _ _ (by omega) (by omega))))
  go_wp2
  go_quiet (fail)
  go_wp2
  go_ret
  exact ⟨rfl, (((Keeps.refl _).alloc _).drewN _).drewN _⟩
set_option maxHeartbeats 400000 in
theorem check_len (n : Int) (a : Option Addr) (len cap : Nat) (w : World) (h : 0 ≤ n) (h' : n ≤ 4096) (hl : ((len : Int) != (n + 7) / 8) = true) :
    Calls Try.prog 108 #[.agg #[.int .i64 n, .slice a len cap]] w fun e w' => e = .returned (.int .i64 10) ∧ Keeps w w' := by
  have hd1 : decide (n < 0) = false := by simp; omega
  have hd2 : decide (4096 < n) = false := by simp; omega
  go_enter Try.func108, Try.ntmps108
  go_wp2
  go_quiet ((go_at_call 115; exact Calls.quiet_of_same (need_any _ _ (by omega) (by omega))))
  go_wp2
  go_ret
  exact ⟨rfl, (((Keeps.refl _).alloc _).drewN _)⟩
set_option maxHeartbeats 400000 in
theorem check_neg (n : Int) (a : Option Addr) (len cap : Nat) (w : World) (h : n < 0) :
    Calls Try.prog 108 #[.agg #[.int .i64 n, .slice a len cap]] w fun e w' => e = .returned (.int .i64 10) ∧ Keeps w w' := by
  go_enter Try.func108, Try.ntmps108
  go_wp2
  go_quiet (fail)
  go_wp2
  go_ret
  exact ⟨rfl, (((Keeps.refl _).alloc _).drewN _)⟩
set_option maxHeartbeats 400000 in
theorem check_big (n : Int) (a : Option Addr) (len cap : Nat) (w : World) (h : 4096 < n) :
    Calls Try.prog 108 #[.agg #[.int .i64 n, .slice a len cap]] w fun e w' => e = .returned (.int .i64 10) ∧ Keeps w w' := by
  have hd1 : decide (n < 0) = false := by simp; omega
  go_enter Try.func108, Try.ntmps108
  go_wp2
  go_quiet (fail)
  go_wp2
  go_ret
  exact ⟨rfl, (((Keeps.refl _).alloc _).drewN _)⟩
/-- the test of the last byte -/
theorem last_test (v : Nat) (n : Int) (h0 : 0 ≤ n) (hv : v < 256) : (bits .and .u8 (v : Int) (255 / 2 ^ (n % 8).toNat) != 0) = !decide (v % 2 ^ (8 - n.toNat % 8) = 0) := by
  obtain ⟨m, rfl⟩ := Int.eq_ofNat_of_zero_le h0
  rw [show ((m : Int) % 8).toNat = m % 8 from by omega, Int.toNat_natCast]
  have : m % 8 = 0 ∨ m % 8 = 1 ∨ m % 8 = 2 ∨ m % 8 = 3 ∨ m % 8 = 4 ∨ m % 8 = 5 ∨ m % 8 = 6 ∨ m % 8 = 7 := by omega
  have key : ∀ k r : Nat, (255 : Int) / 2 ^ r = ((2 ^ k - 1 : Nat) : Int) → k = 8 - r → r < 8 → (bits .and .u8 (v : Int) (255 / 2 ^ r) != 0) = !decide (v % 2 ^ (8 - r) = 0) := by
    intro k r e ek hr
    have hk : 2 ^ k - 1 < 256 := by
      have : 2 ^ k ≤ 2 ^ 8 := Nat.pow_le_pow_right (by decide) (by omega)
      omega
    rw [e, u8_and_nat _ _ hv hk, Nat.and_two_pow_sub_one_eq_mod, ← ek]
    by_cases h : v % 2 ^ k = 0
    · simp [h]
    · simp only [h, decide_false, Bool.not_false, bne_iff_ne, ne_eq]
      omega
  rcases this with h | h | h | h | h | h | h | h <;> rw [h]
  · exact key 8 0 rfl rfl (by decide)
  · exact key 7 1 rfl rfl (by decide)
  · exact key 6 2 rfl rfl (by decide)
  · exact key 5 3 rfl rfl (by decide)
  · exact key 4 4 rfl rfl (by decide)
  · exact key 3 5 rfl rfl (by decide)
  · exact key 2 6 rfl rfl (by decide)
  · exact key 1 7 rfl rfl (by decide)
set_option maxHeartbeats 400000 in
theorem check_last (t : Bool) (n : Int) (b off : Nat) (len cap : Nat) (v : Nat) (w : World) (h : 0 ≤ n) (h' : n ≤ 4096) (hl : ((len : Int) != (n + 7) / 8) = false) (hr : (n % 8 != 0) = true)
    (hb : b < w.heap.size) (hv : w.cell? ⟨b, off + (len - 1), none⟩ = some (.int .u8 (v : Int))) (hby : v < 256) (hcap : len ≤ cap) (hmax : cap ≤ 9223372036854775807)
    (ht : (bits .and .u8 (v : Int) (255 / 2 ^ (n % 8).toNat) != 0) = t) :
    Calls Try.prog 108 #[.agg #[.int .i64 n, .slice (some ⟨b, off, none⟩) len cap]] w fun e w' => e = .returned (.int .i64 (cond t 10 0)) ∧ Keeps w w' := by
  have hd1 : decide (n < 0) = false := by simp; omega
  have hd2 : decide (4096 < n) = false := by simp; omega
  have h1 : 1 ≤ len := by simp at hl hr; omega
  have h2 : len ≤ 512 := by simp at hl; omega
  cases t
  all_goals
    go_enter Try.func108, Try.ntmps108
    go_wp2
    go_quiet ((go_at_call 115; exact Calls.quiet_of_same (need_any _ _ (by omega) (by omega))))
    go_wp2
    go_quiet (fail)
    go_wp2
    go_ret
    exact ⟨rfl, (((Keeps.refl _).alloc _).drewN _).drewN _⟩

/-- which bits may be -/
def errOf (c : Bool) : Int := cond c 0 10
theorem check_any (x : RB) (w : World) (hx : x.In w) :
    Calls Try.prog 108 #[x.val] w fun e w' => e = .returned (.int .i64 (errOf (chk x.n x.l))) ∧ Keeps w w' := by
  have hlen := hx.row.1
  have hrow := hx.row
  have hcap := hx.cap
  have hmax := hx.max
  have hbytes := hx.byte
  obtain ⟨n, a, len, cap, l⟩ := x
  simp only at hlen hrow hcap hmax hbytes
  clear hx
  show Calls Try.prog 108 #[.agg #[.int .i64 n, .slice a len cap]] w fun e w' => e = .returned (.int .i64 (errOf (chk n l))) ∧ Keeps w w'
  by_cases h1 : n < 0
  · have e : chk n l = false := by simp [chk]; omega
    rw [e]; exact check_neg n a len cap w h1
  by_cases h2 : 4096 < n
  · have e : chk n l = false := by simp [chk]; omega
    rw [e]; exact check_big n a len cap w h2
  by_cases h3 : len = (n.toNat + 7) / 8
  · by_cases h4 : n.toNat % 8 = 0
    · have e : chk n l = true := by
        simp only [chk, Bool.and_eq_true, Bool.or_eq_true, decide_eq_true_eq]
        exact ⟨by omega, by omega, by omega, .inl h4⟩
      rw [e]; exact check_ok0 n a len cap w (by omega) (by omega) (by simp; omega) (by simp; omega)
    · obtain ⟨b, off, rfl, hc, hb⟩ := hrow.addr (by omega)
      have hv := hc (len - 1) (by omega)
      have hby := getD_lt hbytes (len - 1)
      have ht := last_test (l.getD (len - 1) 0) n (by omega) hby
      have e : chk n l = decide (l.getD (len - 1) 0 % 2 ^ (8 - n.toNat % 8) = 0) := by
        have e1 : decide (0 ≤ n) = true := by simp; omega
        have e2 : decide (n ≤ 4096) = true := by simp; omega
        have e3 : decide (len = (n.toNat + 7) / 8) = true := by simp; omega
        have e4 : decide (n.toNat % 8 = 0) = false := by simp; omega
        simp only [chk, e1, e2, e3, e4, Bool.true_and, Bool.false_or, hlen]
      rw [e]
      refine (check_last _ n b off len cap _ w (by omega) (by omega) (by simp; omega) (by simp; omega) hb hv hby hcap hmax ht).mono ?_
      rintro e' w' ⟨rfl, hk⟩
      refine ⟨ret_int ?_, hk⟩
      cases decide (l.getD (len - 1) 0 % 2 ^ (8 - n.toNat % 8) = 0) <;> rfl
  · have e : chk n l = false := by
      have e3 : decide (l.length = (n.toNat + 7) / 8) = false := by simp; omega
      simp [chk, e3]
    rw [e]; exact check_len n a len cap w (by omega) (by omega) (by simp; omega)
theorem check_yes (x : RB) (w : World) (hx : x.In w) (hc : chk x.n x.l = true) :
    Calls Try.prog 108 #[x.val] w fun e w' => e = .returned (.int .i64 0) ∧ Keeps w w' := by
  have := check_any x w hx
  rw [hc] at this
  exact this
theorem check_no (x : RB) (w : World) (hx : x.In w) (hc : chk x.n x.l = false) :
    Calls Try.prog 108 #[x.val] w fun e w' => e = .returned (.int .i64 10) ∧ Keeps w w' := by
  have := check_any x w hx
  rw [hc] at this
  exact this
end Go.Proofs.Ytmjodcackmjllaa
