/- The writer's truths. -/
import Derived.Test.YtmjodcackmjllaaQ3
namespace Go.Proofs.Ytmjodcackmjllaa
open Go.RowKit
set_option linter.unusedVariables false
set_option linter.unusedSimpArgs false
/-- truths as a byte -/
def truTo (bs : List Bool) : Nat → Nat
  | 0 => 0
  | k + 1 => truTo bs k + cond (bs.getD k false) (2 ^ k) 0
theorem truTo_lt (bs : List Bool) (k : Nat) : truTo bs k < 2 ^ k := by
  induction k with
  | zero => simp [truTo]
  | succ k ih =>
    simp only [truTo, Nat.pow_succ]
    cases bs.getD k false <;> simp only [cond_true, cond_false] <;> omega
theorem or_new_fin : ∀ k : Fin 8, ∀ c : Fin 256, c.val < 2 ^ k.val → bits .or .i64 (c.val : Int) (2 ^ k.val) = ((c.val + 2 ^ k.val : Nat) : Int) := by decide +kernel
theorem or_new (k c : Nat) (hk : k < 8) (hc : c < 2 ^ k) : bits .or .i64 (c : Int) (2 ^ k) = ((c + 2 ^ k : Nat) : Int) := by
  have : c < 256 := Nat.lt_of_lt_of_le hc (Nat.pow_le_pow_right (by decide) (by omega) : _ ≤ 2 ^ 8)
  exact or_new_fin ⟨k, hk⟩ ⟨c, this⟩ hc
theorem wrap_pow_fin : ∀ k : Fin 8, wrap64 ((2 : Int) ^ k.val) = 2 ^ k.val := by decide +kernel
theorem wrap_pow8 (k : Nat) (hk : k < 8) : wrap64 ((2 : Int) ^ k) = 2 ^ k := wrap_pow_fin ⟨k, hk⟩
set_option maxRecDepth 100000 in
set_option maxHeartbeats 2000000 in
theorem truths_any (base B : Nat) (v : Value) (l : List Nat) (z : Value) (bs : List Bool) (w : World) (hw : Wr w base B v l) (hb : base ≤ w.heap.size) (hl : l.length ≤ 100000) (hz : Bools w z bs) (h8 : bs.length ≤ 8) :
    Calls Try.prog 89 #[.pointer (some ⟨B, 0, none⟩), z] w fun e w' => e = .returned (.tuple #[]) ∧ ∃ v', Wr w' base B v' (l ++ [truTo bs bs.length]) ∧ GrB B w w' v v' := by
  obtain ⟨a, cap, rfl, hcap, hmax, hrow⟩ := hz.shape
  have HR := Lib.hid hrow
  have HW := Lib.hid hw
  clear hw hz hrow
  go_enter Try.func89, Try.ntmps89
  go_wp2_with fail
  go_loopw [4, 9] (fun c i wr => ∃ k : Nat, k ≤ bs.length ∧ i = .int .i64 k ∧ c = .int .i64 (truTo bs k : Nat) ∧ w = wr) (fun _ i _ => bs.length - (intOf i).toNat)
  case atStart => exact ⟨0, by omega, rfl, rfl, rfl⟩
  case round =>
    obtain ⟨k, hk, rfl, rfl, rfl⟩ := hrel
    have hlt2 := truTo_lt bs k
    by_cases hlt : k < bs.length
    · obtain ⟨b, off, rfl, hcell, hbl⟩ := HR.out.boolAt (by omega)
      have hc := hcell k hlt
      have HS := Lib.hid (show truTo bs (k + 1) = truTo bs k + cond (bs.getD k false) (2 ^ k) 0 from rfl)
      obtain ⟨C, hC⟩ : ∃ C, C = truTo bs k := ⟨_, rfl⟩
      rw [← hC] at HS hlt2 ⊢
      clear hcell hC
      cases hx : bs.getD k false
      · rw [hx] at hc HS
        go_wp2_with fail
        go_roundw
        case rel => exact ⟨k + 1, by omega, by go_num, by rw [HS.out]; rfl, trivial⟩
        case measure => simp [intOf]; omega
      · rw [hx] at hc HS
        have hw8 : wrap64 ((2 : Int) ^ k) = 2 ^ k := wrap_pow8 k (by omega)
        have ho8 := or_new k C (by omega) hlt2
        go_wp2_with fail
        go_roundw
        case rel => exact ⟨k + 1, by omega, by go_num, by rw [HS.out]; go_num, trivial⟩
        case measure => simp [intOf]; omega
    · obtain rfl : k = bs.length := by omega
      have h256 : truTo bs bs.length < 256 := Nat.lt_of_lt_of_le hlt2 (Nat.pow_le_pow_right (by decide) h8 : _ ≤ 2 ^ 8)
      have hone : (((truTo bs bs.length : Nat) : Int) % 256).toNat = truTo bs bs.length := by omega
      have HON := Lib.hid hone
      go_wp2_with fail
      with_reducible refine (one_any base B v l _ _ HW.out hb hl).mono ?_
      rw [HON.out]
      rintro e w2 ⟨rfl, v2, hw2, hg2⟩
      go_wp2_with fail
      go_end0
      exact ⟨rfl, v2, hw2, hg2⟩
end Go.Proofs.Ytmjodcackmjllaa
