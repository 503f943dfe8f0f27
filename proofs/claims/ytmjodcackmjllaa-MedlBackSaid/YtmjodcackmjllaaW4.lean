/- The walks of the reference of layer 1, 1: bit, Check, List. -/
import Derived.Test.YtmjodcackmjllaaW1
import Derived.Test.YtmjodcackmjllaaBase2
namespace Go.Proofs.Ytmjodcackmjllaa
open Go.RowKit
set_option linter.unusedVariables false
set_option linter.unusedSimpArgs false

theorem shr_test (x k : Nat) : (((x : Int) / 2 ^ k).tmod 2 == 1) = x.testBit k := by
  rw [Int.tmod_eq_emod_of_nonneg (Int.ediv_nonneg (by omega) (Int.le_of_lt (Int.pow_pos (by decide))))]
  rw [Nat.testBit_eq_decide_div_mod_eq]
  have e : ((x : Int) / 2 ^ k % 2) = ((x / 2 ^ k % 2 : Nat) : Int) := by simp
  rw [e]
  by_cases h : x / 2 ^ k % 2 = 1
  · simp [h]
  · simp only [h, decide_false, beq_eq_false_iff_ne, ne_eq]; omega

set_option maxHeartbeats 400000 in
theorem rbit_any (a : Option Addr) (len cap : Nat) (l : List Nat) (iv : Int) (i : Nat) (w : World) (hiv : iv = i) (hrow : Row w .u8 a len l) (hby : ∀ x ∈ l, x < 256) (hcap : len ≤ cap) (hmax : cap ≤ 9223372036854775807) (hi : i / 8 < len) (hm : i ≤ 9223372036854775807) :
    Calls Try.prog 116 #[.slice a len cap, .int .i64 iv] w fun e w' => e = .returned (.bool (bitAt l i)) ∧ w' = w := by
  subst hiv
  obtain ⟨b, off, rfl, hc, hb⟩ := hrow.addr (by omega)
  have hcell := hc _ hi
  have hv := getD_lt hby (i / 8)
  obtain ⟨v, hvv⟩ : ∃ v, v = l.getD (i / 8) 0 := ⟨_, rfl⟩
  have HV := Lib.hid hvv
  rw [← hvv] at hcell hv
  clear hvv hc hrow hby
  go_enter Try.func116, Try.ntmps116
  go_wp2
  go_ret
  refine ⟨ret_bool ?_, rfl⟩
  rw [shr_test]
  unfold bitAt
  rw [HV.out]

set_option maxHeartbeats 400000 in
theorem rcheck_neg (n : Int) (a : Option Addr) (len cap : Nat) (w : World) (h : n < 0 ∨ 4096 < n) :
    Calls Try.prog 110 #[.agg #[.int .i64 n, .slice a len cap]] w fun e w' => e = .returned (.int .i64 10) ∧ Keeps w w' := by
  by_cases h1 : n < 0
  · have hd1 : decide (n < 0) = true := by simpa using h1
    go_enter Try.func110, Try.ntmps110
    go_wp2
    go_ret
    exact ⟨rfl, (Keeps.refl _).alloc _⟩
  · have hd1 : decide (n < 0) = false := by simpa using h1
    have hd2 : decide (4096 < n) = true := by simp; omega
    go_enter Try.func110, Try.ntmps110
    go_wp2
    go_ret
    exact ⟨rfl, (Keeps.refl _).alloc _⟩
set_option maxHeartbeats 400000 in
theorem rcheck_len (n : Int) (a : Option Addr) (len cap : Nat) (w : World) (h : 0 ≤ n) (h' : n ≤ 4096) (hl : ((len : Int) != (n + 7) / 8) = true) :
    Calls Try.prog 110 #[.agg #[.int .i64 n, .slice a len cap]] w fun e w' => e = .returned (.int .i64 10) ∧ Keeps w w' := by
  have hd1 : decide (n < 0) = false := by simp; omega
  have hd2 : decide (4096 < n) = false := by simp; omega
  go_enter Try.func110, Try.ntmps110
  go_wp2
  go_ret
  exact ⟨rfl, (Keeps.refl _).alloc _⟩
set_option maxHeartbeats 400000 in
theorem rcheck_scan (n : Nat) (a : Option Addr) (len cap : Nat) (l : List Nat) (w : World) (h' : n ≤ 4096) (hl : len = (n + 7) / 8) (hrow : Row w .u8 a len l) (hby : ∀ x ∈ l, x < 256) (hcap : len ≤ cap) (hmax : cap ≤ 9223372036854775807) :
    Calls Try.prog 110 #[.agg #[.int .i64 n, .slice a len cap]] w fun e w' => e = .returned (.int .i64 (errOf (chk n l))) ∧ Keeps w w' := by
  have HL := Lib.hid hl
  have hl1 : ((len : Int) != ((n : Int) + 7) / 8) = false := by simp; omega
  have hl2 : len ≤ 512 := by omega
  have hl3 : n ≤ 8 * len := by omega
  clear hl
  have hd1 : decide ((n : Int) < 0) = false := by simp
  have hd2 : decide ((4096 : Int) < n) = false := by simp; omega
  have HR := Lib.hid hrow
  have HB := Lib.hid hby
  clear hrow hby
  go_enter Try.func110, Try.ntmps110
  go_wp2
  clear hl1 hd1 hd2
  go_loop [3] (fun i => ∃ k : Nat, n ≤ k ∧ k ≤ 8 * len ∧ i = .int .i64 k ∧ Hid (∀ j, n ≤ j → j < k → bitAt l j = false)) (fun i => 8 * len - (intOf i).toNat)
  case atStart => exact ⟨n, Nat.le_refl _, hl3, rfl, fun j h1 h2 => absurd h1 (by omega)⟩
  case round =>
    obtain ⟨k, hk1, hk2, rfl, HZ⟩ := hrel
    by_cases hlt : k < 8 * len
    · cases hbb : bitAt l k
      all_goals
        have HBB := Lib.hid hbb
        clear hbb
        go_wp2_with fail
        with_reducible refine (rbit_any a len cap l _ k _ rfl (by exact HR.out.keeps ((Keeps.refl w).alloc _)) HB.out hcap hmax (by omega) (by omega)).mono ?_
        rintro e w' ⟨rfl, rfl⟩
        rw [HBB.out]
        go_wp2_with fail
      · go_round
        case rel =>
          refine ⟨k + 1, by omega, by omega, by go_num, fun j h1 h2 => ?_⟩
          by_cases h3 : j = k
          · rw [h3]; exact HBB.out
          · exact HZ.out j h1 (by omega)
        case measure => simp [intOf]; omega
      · go_ret
        exact ⟨ret_int (by rw [chk_not HB.out HBB.out hk1]; rfl), (Keeps.refl _).alloc _⟩
    · go_wp2_with fail
      go_ret
      refine ⟨ret_int ?_, (Keeps.refl _).alloc _⟩
      have hlen := HR.out.1
      rw [chk_bits h' (by rw [hlen]; exact HL.out) HB.out fun i h1 h2 => HZ.out i h1 (by omega)]
      rfl
theorem rcheck_any (x : RB) (w : World) (hx : x.In w) :
    Calls Try.prog 110 #[x.val] w fun e w' => e = .returned (.int .i64 (errOf (chk x.n x.l))) ∧ Keeps w w' := by
  have hlen := hx.row.1
  have hrow := hx.row
  have hcap := hx.cap
  have hmax := hx.max
  have hbytes := hx.byte
  obtain ⟨n, a, len, cap, l⟩ := x
  simp only at hlen hrow hcap hmax hbytes
  clear hx
  show Calls Try.prog 110 #[.agg #[.int .i64 n, .slice a len cap]] w fun e w' => e = .returned (.int .i64 (errOf (chk n l))) ∧ Keeps w w'
  by_cases h1 : n < 0 ∨ 4096 < n
  · have e : chk n l = false := by
      rcases h1 with h1 | h1
      · have : decide (0 ≤ n) = false := by simp; omega
        simp [chk, this]
      · have : decide (n ≤ 4096) = false := by simp; omega
        simp [chk, this]
    rw [e]; exact rcheck_neg n a len cap w h1
  obtain ⟨m, rfl⟩ := Int.eq_ofNat_of_zero_le (show 0 ≤ n by omega)
  by_cases h3 : len = (m + 7) / 8
  · exact rcheck_scan m a len cap l w (by omega) h3 hrow hbytes hcap hmax
  · have e : chk m l = false := by
      have e3 : decide (l.length = ((m : Int).toNat + 7) / 8) = false := by simp; omega
      simp only [chk, e3, Bool.false_and, Bool.and_false]
    rw [e]; exact rcheck_len m a len cap w (by omega) (by omega) (by simp; omega)
theorem rcheck_yes (x : RB) (w : World) (hx : x.In w) (hc : chk x.n x.l = true) :
    Calls Try.prog 110 #[x.val] w fun e w' => e = .returned (.int .i64 0) ∧ Keeps w w' := by
  have := rcheck_any x w hx
  rw [hc] at this
  exact this
theorem rcheck_no (x : RB) (w : World) (hx : x.In w) (hc : chk x.n x.l = false) :
    Calls Try.prog 110 #[x.val] w fun e w' => e = .returned (.int .i64 10) ∧ Keeps w w' := by
  have := rcheck_any x w hx
  rw [hc] at this
  exact this
end Go.Proofs.Ytmjodcackmjllaa
