/- The walks of package crc, 2: remainder. -/
import Derived.Test.YtmjodcackmjllaaW6
import Derived.Test.YtmjodcackmjllaaPlainCrc2
namespace Go.Proofs.Ytmjodcackmjllaa
open Go.RowKit
set_option linter.unusedVariables false
set_option linter.unusedSimpArgs false

/-- the table lies there -/
def TabAt (w : World) (g : Nat) : Prop := ∀ i, i < 16 → w.cell? ⟨g, i, none⟩ = some (.int .u32 (tabAt i : Nat))
theorem TabAt.keeps {w w' : World} {g : Nat} (h : TabAt w g) (hk : Keeps w w') : TabAt w' g := fun i hi => hk.later (h i hi)
theorem xor_u32 (x y : Nat) (hx : x < 16777216) (hy : y < 16777216) : bits .xor .u32 (x : Int) (y : Int) = ((x ^^^ y : Nat) : Int) := u32_xor_nat _ _ (by omega) (by omega)

set_option maxHeartbeats 1000000 in
set_option maxRecDepth 100000 in
theorem remainder_any (x : RB) (bs : List Bool) (r g : Nat) (w : World) (hx : x.Is w bs) (ht : TabAt w g) (hr : r < 16777216) :
    Calls Try.prog 109 #[.int .u32 r, x.val, .pointer (some ⟨g, 0, none⟩)] w fun e w' => e = .returned (.int .u32 (crcOver r bs)) ∧ Keeps w w' := by
  have hmost := hx.most
  have HX := Lib.hid hx
  have HT := Lib.hid ht
  clear ht
  obtain ⟨a, cap, rfl⟩ := hx.shape
  clear hx
  show Calls Try.prog 109 #[.int .u32 r, .agg #[.int .i64 bs.length, .slice a ((bs.length + 7) / 8) cap], .pointer (some ⟨g, 0, none⟩)] w _
  go_enter Try.func109, Try.ntmps109
  go_wp2_with fail
  have hk0 := (Keeps.refl (w.alloc (.cells #[.int .i64 bs.length, .slice a ((bs.length + 7) / 8) cap] 108)))
  have hb0 := hk0.box 0 _ rfl
  have hb1 := hk0.box 1 _ rfl
  have hz1 := hk0.box_lt
  have HK := Lib.hid hk0.unbox
  clear hk0
  go_loopw [0, 7] (fun rv i wr => ∃ k : Nat, k ≤ bs.length ∧ i = .int .i64 k ∧ rv = .int .u32 (crcTo r bs k) ∧ wr.cell? ⟨w.heap.size, 0, none⟩ = some (.int .i64 bs.length) ∧
      wr.cell? ⟨w.heap.size, 1, none⟩ = some (.slice a ((bs.length + 7) / 8) cap) ∧ w.heap.size < wr.heap.size ∧ Hid (Keeps w wr)) (fun _ i _ => bs.length - (intOf i).toNat)
  case atStart => exact ⟨0, by omega, rfl, rfl, hb0, hb1, hz1, HK⟩
  case round =>
    clear hb0 hb1 hz1 HK
    obtain ⟨k, hk, rfl, rfl, hb0, hb1, hzr, hkr⟩ := hrel
    have hq := crcTo_lt r bs k hr
    by_cases hlt : k + 4 ≤ bs.length
    · have HS := Lib.hid (crcTo_four r bs k hlt hr)
      have hv : getTo bs k 4 < 16 := getTo_lt bs k 4
      obtain ⟨q, hqq⟩ : ∃ q, q = crcTo r bs k := ⟨_, rfl⟩
      obtain ⟨v, hvv⟩ : ∃ v, v = getTo bs k 4 := ⟨_, rfl⟩
      rw [← hqq] at hq HS ⊢
      rw [← hvv] at hv HS
      have HV := Lib.hid hvv
      clear hqq hvv
      have hix : (q / 1048576) ^^^ v < 16 := Nat.xor_lt_two_pow (n := 4) (by omega) hv
      obtain ⟨ix, hixx⟩ : ∃ ix, ix = (q / 1048576) ^^^ v := ⟨_, rfl⟩
      rw [← hixx] at hix HS
      have hxor : bits .xor .u32 ((q : Int) / 1048576) (v : Int) = (ix : Int) := by
        rw [hixx, ← xor_u32 (q / 1048576) v (by omega) (by omega)]
        rw [show ((q / 1048576 : Nat) : Int) = (q : Int) / 1048576 from by omega]
      clear hixx
      have hand := and_cut (q * 16) (by omega)
      rw [show ((q * 16 : Nat) : Int) = (q : Int) * 16 from by omega] at hand
      have HA := Lib.hid hand
      clear hand
      have hd : decide ((k : Int) + 4 ≤ bs.length) = true := by simp; omega
      go_wp2_with fail
      with_reducible refine (get_ok ⟨bs.length, a, (bs.length + 7) / 8, cap, pack bs⟩ bs k 4 _ _ _ (by omega) (by omega) (by exact HX.out.keeps hkr.out) (by omega) hlt).mono ?_
      rw [← HV.out]
      rintro e w2 ⟨rfl, hk2⟩
      have hb0' := hk2.later hb0
      have hb1' := hk2.later hb1
      have hz2 := hk2.size
      have hcell := (HT.out.keeps (hkr.out.trans hk2)) ix hix
      have HK2 := Lib.hid (hkr.out.trans hk2)
      clear hk2
      go_wp2_with fail
      go_roundw
      case rel =>
        refine ⟨k + 4, hlt, by go_num, ?_, hb0', hb1', by omega, HK2⟩
        rw [HS.out, HA.out, xor_u32 _ _ (by omega) (tabAt_lt ix)]
      case measure => simp [intOf]; omega
    · have hd : decide ((k : Int) + 4 ≤ bs.length) = false := by simp; omega
      go_wp2_with fail
      clear hd
      obtain ⟨k0, hk0⟩ : ∃ k0, k0 = k := ⟨_, rfl⟩
      go_loopw [0, 7] (fun rv i ws => ∃ k : Nat, k ≤ bs.length ∧ i = .int .i64 k ∧ rv = .int .u32 (crcTo r bs k) ∧ ws.cell? ⟨w.heap.size, 0, none⟩ = some (.int .i64 bs.length) ∧
          ws.cell? ⟨w.heap.size, 1, none⟩ = some (.slice a ((bs.length + 7) / 8) cap) ∧ w.heap.size < ws.heap.size ∧ Hid (Keeps w ws)) (fun _ i _ => bs.length - (intOf i).toNat)
      case atStart => exact ⟨k, hk, rfl, rfl, hb0, hb1, hzr, hkr⟩
      case round =>
        clear hb0 hb1 hzr hkr hlt hk hq hk0 k0
        obtain ⟨k, hk, rfl, rfl, hb0, hb1, hzr, hkr⟩ := hrel
        have hq := crcTo_lt r bs k hr
        by_cases hlt : k < bs.length
        · have HS := Lib.hid (crcTo_one r bs k hlt hr)
          have hv : getTo bs k 1 < 2 := getTo_lt bs k 1
          obtain ⟨q, hqq⟩ : ∃ q, q = crcTo r bs k := ⟨_, rfl⟩
          obtain ⟨v, hvv⟩ : ∃ v, v = getTo bs k 1 := ⟨_, rfl⟩
          rw [← hqq] at hq HS ⊢
          rw [← hvv] at hv HS
          have HV := Lib.hid hvv
          clear hqq hvv
          have hx := xor_u32 q (v * 8388608) hq (by omega)
          rw [show ((v * 8388608 : Nat) : Int) = (v : Int) * 8388608 from by omega] at hx
          have hlx : q ^^^ (v * 8388608) < 16777216 := Nat.xor_lt_two_pow (n := 24) hq (by omega)
          have HX2 := Lib.hid hx
          clear hx
          go_wp2_with fail
          with_reducible refine (get_ok ⟨bs.length, a, (bs.length + 7) / 8, cap, pack bs⟩ bs k 1 _ _ _ (by omega) (by omega) (by exact HX.out.keeps hkr.out) (by omega) (by omega)).mono ?_
          rw [← HV.out]
          rintro e w2 ⟨rfl, hk2⟩
          have hb0' := hk2.later hb0
          have hb1' := hk2.later hb1
          have hz2 := hk2.size
          have HK2 := Lib.hid (hkr.out.trans hk2)
          clear hk2
          go_wp2_with fail
          with_reducible refine (shift_any _ (q ^^^ (v * 8388608)) _ HX2.out hlx).mono ?_
          rintro e w' ⟨rfl, rfl⟩
          go_wp2_with fail
          go_roundw
          case rel => exact ⟨k + 1, by omega, by go_num, by rw [HS.out], hb0', hb1', by omega, HK2⟩
          case measure => simp [intOf]; omega
        · obtain rfl : k = bs.length := by omega
          go_wp2_with fail
          go_ret
          exact ⟨ret_int (by rw [crcTo_all]), hkr.out⟩
end Go.Proofs.Ytmjodcackmjllaa
