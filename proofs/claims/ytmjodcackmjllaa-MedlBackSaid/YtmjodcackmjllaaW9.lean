/- The walks of the reference of layer 2, 1: over, Sum. -/
import Derived.Test.YtmjodcackmjllaaW5
import Derived.Test.YtmjodcackmjllaaW8
namespace Go.Proofs.Ytmjodcackmjllaa
open Go.RowKit
set_option linter.unusedVariables false
set_option linter.unusedSimpArgs false

theorem RowV.boolAt {w : World} {a : Option Addr} {bs : List Bool} (h : RowV w a bs.length (bs.map Value.bool)) (h0 : 0 < bs.length) :
    ∃ b off, a = some ⟨b, off, none⟩ ∧ (∀ i, i < bs.length → w.cell? ⟨b, off + i, none⟩ = some (.bool (bs.getD i false))) ∧ b < w.heap.size := by
  obtain ⟨b, off, h1, h2, h3⟩ := h.addr h0
  refine ⟨b, off, h1, fun i hi => ?_, h3⟩
  rw [h2 i hi]
  simp [List.getD_eq_getElem?_getD, hi]

theorem top_of (q : Nat) (hq : q < 16777216) : ((q : Int) / 8388608 % 2 == 1) = decide (q / 8388608 % 2 = 1) := by
  by_cases h : q / 8388608 % 2 = 1
  · simp [h]; omega
  · simp [h]; omega

set_option maxHeartbeats 400000 in
theorem over_any (v : Value) (bs : List Bool) (r : Nat) (w : World) (hl : Bools w v bs) (hr : r < 16777216) :
    Calls Try.prog 111 #[.int .u32 r, v] w fun e w' => e = .returned (.int .u32 (crcOver r bs)) ∧ w' = w := by
  obtain ⟨a, cap, rfl, hcap, hmax, hrow⟩ := hl.shape
  have HR := Lib.hid hrow
  clear hl hrow
  go_enter Try.func111, Try.ntmps111
  go_wp2_with fail
  go_loop [0, 5] (fun rv i => ∃ k : Nat, k ≤ bs.length ∧ i = .int .i64 k ∧ rv = .int .u32 (crcTo r bs k)) (fun _ i => bs.length - (intOf i).toNat)
  case atStart => exact ⟨0, by omega, rfl, rfl⟩
  case round =>
    obtain ⟨k, hk, rfl, rfl⟩ := hrel
    by_cases hlt : k < bs.length
    · obtain ⟨b, off, rfl, hc, hb⟩ := HR.out.boolAt (by omega)
      have hcell := hc k hlt
      clear hc
      have HS := Lib.hid (crcTo_step r bs k hlt)
      have hq := crcTo_lt r bs k hr
      obtain ⟨q, hqq⟩ : ∃ q, q = crcTo r bs k := ⟨_, rfl⟩
      rw [← hqq] at HS hq ⊢
      clear hqq
      obtain ⟨t, ht⟩ : ∃ t, decide (q / 8388608 % 2 = 1) = t := ⟨_, rfl⟩
      have htop := top_of q hq
      rw [ht] at htop
      have HT := Lib.hid ht
      clear ht
      obtain ⟨y, hy⟩ : ∃ y, bs.getD k false = y := ⟨_, rfl⟩
      rw [hy] at hcell HS
      clear hy
      have hx := xor_poly (q * 2 % 16777216) (by omega)
      have hcast : ((q * 2 % 16777216 : Nat) : Int) = (q : Int) * 2 % 16777216 := by omega
      rw [hcast] at hx
      have HX := Lib.hid hx
      have HCA := Lib.hid hcast
      clear hx hcast
      cases t <;> cases y
      all_goals
        go_wp2_with fail
      all_goals
        go_round
        case rel =>
          refine ⟨k + 1, by omega, by go_num, ?_⟩
          rw [HS.out]
          unfold crcStep
          rw [HT.out]
          first | (rw [if_pos (by decide), HX.out]) | (rw [if_neg (by decide), HCA.out])
        case measure => simp [intOf]; omega
    · obtain rfl : k = bs.length := by omega
      go_wp2_with fail
      go_ret
      exact ⟨ret_int (by rw [crcTo_all]), rfl⟩

set_option maxHeartbeats 1000000 in
theorem rsum_any (a : Option Addr) (n cap : Nat) (xs : List RB) (w : World) (hx : RBs w a n cap xs) :
    Calls Try.prog 102 #[.slice a n cap] w fun e w' => e = .returned (.tuple #[.int .u32 (sumRes xs).1, .int .i64 (sumRes xs).2]) ∧ Keeps w w' := by
  have HX := Lib.hid hx
  have hlen := hx.len
  have hcap := hx.hcap
  have hmax := hx.hmax
  have hreach := hx.reach
  subst hlen
  clear hx
  go_enter Try.func102, Try.ntmps102
  go_wp2_with fail
  go_loopw [4, 5] (fun rv i wr => ∃ k : Nat, k ≤ xs.length ∧ i = .int .i64 k ∧ rv = .int .u32 (sumTo xs k) ∧ Hid (∀ j (hj : j < xs.length), j < k → chk xs[j].n xs[j].l = true) ∧
      Hid (Keeps w wr)) (fun _ i _ => xs.length - (intOf i).toNat)
  case atStart => exact ⟨0, by omega, rfl, rfl, fun j _ h => absurd h (by omega), Keeps.refl _⟩
  case round =>
    obtain ⟨k, hk, rfl, rfl, HC, HK⟩ := hrel
    by_cases hlt : k < xs.length
    · obtain ⟨b, off, rfl, hcell⟩ := HX.out.addr (by omega)
      obtain ⟨hc0, hc1⟩ := hcell k hlt
      replace hc0 := HK.out.later hc0
      replace hc1 := HK.out.later hc1
      have HS := Lib.hid (sumTo_succ xs k hlt)
      have HI := Lib.hid (HX.out.isIn _ (List.getElem_mem hlt))
      have HC2 := Lib.hid (sumRes_no xs k hlt)
      have HC3 : Hid (chk xs[k].n xs[k].l = true → ∀ j (hj : j < xs.length), j < k + 1 → chk xs[j].n xs[j].l = true) := by
        intro h j hj hjk
        by_cases hjk' : j = k
        · subst hjk'; exact h
        · exact HC.out j hj (by omega)
      clear hcell HC
      obtain ⟨x, hx⟩ : ∃ x, x = xs[k] := ⟨_, rfl⟩
      rw [← hx] at hc0 hc1 HS HI HC2 HC3
      clear hx
      obtain ⟨nn, aa, ll, cc, bl⟩ := x
      simp only at hc0 hc1
      have hr := sumTo_lt xs k
      cases hch : chk nn bl
      all_goals
        have HCH := Lib.hid hch
        clear hch
        go_wp2_with fail
      · with_reducible refine (rcheck_no ⟨nn, aa, ll, cc, bl⟩ _ (by exact HI.out.keeps HK.out) HCH.out).mono ?_
        rintro e w2 ⟨rfl, hk2⟩
        go_wp2_with fail
        go_ret2
        refine ⟨?_, HK.out.trans hk2⟩
        rw [HC2.out HCH.out]
        rfl
      · with_reducible refine (rcheck_yes ⟨nn, aa, ll, cc, bl⟩ _ (by exact HI.out.keeps HK.out) HCH.out).mono ?_
        rintro e w2 ⟨rfl, hk2⟩
        replace hc0 := hk2.later hc0
        replace hc1 := hk2.later hc1
        have HK2 := Lib.hid (HK.out.trans hk2)
        clear hk2
        go_wp2_with fail
        with_reducible refine (rlist_ok ⟨nn, aa, ll, cc, bl⟩ (unpack nn.toNat bl) _ (by exact (HI.out.keeps HK2.out).is HCH.out)).mono ?_
        rintro e w3 ⟨v, rfl, hown, hk3⟩
        have HK3 := Lib.hid (HK2.out.trans hk3)
        have HO3 := Lib.hid hown
        clear hk3 hown
        go_wp2_with fail
        with_reducible refine (over_any v (unpack nn.toNat bl) (sumTo xs k) _ (by exact HO3.out.bools) hr).mono ?_
        rintro e w' ⟨rfl, rfl⟩
        go_wp2_with fail
        go_roundw
        case rel => exact ⟨k + 1, by omega, by go_num, by rw [HS.out]; rfl, HC3.out HCH.out, HK3⟩
        case measure => simp [intOf]; omega
    · obtain rfl : k = xs.length := by omega
      go_wp2_with fail
      go_ret2
      refine ⟨?_, HK.out⟩
      rw [sumRes_yes xs fun i hi => HC.out i hi hi]
      rfl
end Go.Proofs.Ytmjodcackmjllaa
