/- slices.Concat, of samples. -/
import Derived.Test.YtdjbalaicfienaaP12
import Derived.Test.YtdjbalaicfienaaP23
import Derived.Lib.AppendZeros
namespace Go.Proofs.Ytdjbalaicfienaa
open Go.RowKit
set_option linter.unusedVariables false
set_option linter.unusedSimpArgs false
theorem zc_size (z : Array Value) (n : Nat) : (Builtin.zeroCells z n).size = n * z.size := by
  simp [Builtin.zeroCells]
theorem grow_run (n : Nat) (h0 : 0 < n) (hn : n ≤ 100000) (w : World) : ∃ cap w', (Builtin.append_ #[52, 3] 52 #[.slice none 0 0, .int .i64 n]).run Try.prog w = .ok (.slice (some ⟨w.heap.size, 0, none⟩) n cap) w' ∧
    OwnP w' w.heap.size (.slice (some ⟨w.heap.size, 0, none⟩) 0 cap) [] ∧ Keeps w w' ∧ n ≤ cap ∧ cap ≤ 9223372036854775807 := by
  obtain ⟨i, hi, hz0, hz1, hz2⟩ := info_parts infoSmp
  have hr := Go.Lib.run_append_nil_zeros (P := Try.prog) w 52 3 52 63 i _ .i64 .i64 Try.underlying52 (by kernel_rfl) hi hz0 n h0 (by rw [hz1]; decide) (by omega) (by rw [hz2]; omega)
  have hge := grownCap_ge w n 0 63
  have hle := grownCap_le_maxLen w n 0 63 (by unfold maxLen; omega)
  refine ⟨_, _, hr, ⟨rfl, .inr ⟨w.heap.size, _, _, rfl, Nat.le_refl _, heap_alloc_new w.drew _, Nat.zero_le _, hle, ?_, rfl⟩⟩, (Keeps.refl w).drew.alloc _, hge, by unfold maxLen at hle; omega⟩
  rw [Array.size_append, zc_size, zc_size]
  show n * 2 + (grownCap w n 0 _ - n) * 2 = _
  omega
set_option maxRecDepth 100000 in
set_option maxHeartbeats 1000000 in
theorem grow_any (n : Nat) (h0 : 0 < n) (hn : n ≤ 100000) (w : World) :
    Calls Try.prog 91 #[.slice none 0 0, .int .i64 n] w fun e w' => ∃ v, e = .returned v ∧ OwnP w' w.heap.size v [] ∧ Keeps w w' := by
  obtain ⟨cap, w', hr, hown, hk, hc, hm⟩ := grow_run n h0 hn w
  have HO := Lib.hid hown
  have HK := Lib.hid hk
  have HR := Lib.hid hr
  clear hown hk hr
  have d1 : decide ((n : Int) < 0) = false := decide_eq_false (by omega)
  have d2 : decide ((0 : Int) < (n : Int)) = true := decide_eq_true (by omega)
  go_enter Try.func91, Try.ntmps91
  go_wp2_with (refine Go.Lib.wpList_append_run _ rfl _ _ _ _ rfl _ _ rfl rfl _ _ HR.out ?hmain)
  go_ret
  exact ⟨_, rfl, HO.out, HK.out⟩
def catTo (ls : List RS) (k : Nat) : List Smp := (ls.take k).flatMap fun x => x.xs
theorem catTo_succ (ls : List RS) (k : Nat) (h : k < ls.length) : catTo ls (k + 1) = catTo ls k ++ ls[k].xs := by
  unfold catTo
  rw [List.take_add_one, List.getElem?_eq_getElem h, List.flatMap_append]
  simp
theorem catTo_le (ls : List RS) (k m : Nat) (h : k ≤ m) (hm : m ≤ ls.length) : (catTo ls k).length ≤ (catTo ls m).length := by
  induction m with
  | zero => obtain rfl : k = 0 := by omega
            exact Nat.le_refl _
  | succ m ih =>
    by_cases e : k = m + 1
    · subst e; exact Nat.le_refl _
    · have := ih (by omega) (by omega)
      rw [catTo_succ ls m (by omega), List.length_append]
      omega
set_option maxRecDepth 100000 in
set_option maxHeartbeats 2000000 in
theorem concat_any (a : Option Addr) (n cap : Nat) (ls : List RS) (w : World) (hx : SRs w a n cap ls) (h0 : 0 < (catTo ls ls.length).length) (hn : (catTo ls ls.length).length ≤ 100000) (hn2 : ls.length ≤ 100000) :
    Calls Try.prog 59 #[.slice a n cap] w fun e w' => ∃ v, e = .returned v ∧ OwnP w' w.heap.size v (catTo ls ls.length) ∧ Keeps w w' := by
  have HX := Lib.hid hx
  have hlen := hx.len
  have hcap := hx.hcap
  have hmax := hx.hmax
  subst hlen
  have HLE := Lib.hid (fun k (h : k ≤ ls.length) => catTo_le ls k ls.length h (Nat.le_refl _))
  obtain ⟨R, hR⟩ : ∃ R, R = catTo ls ls.length := ⟨_, rfl⟩
  have HR := Lib.hid hR
  rw [← hR] at h0 hn HLE ⊢
  clear hx hR
  go_enter Try.func59, Try.ntmps59
  go_wp2_with fail
  go_loopw [3, 11] (fun v i wr => ∃ k : Nat, k ≤ ls.length ∧ i = .int .i64 k ∧ v = .int .i64 ((catTo ls k).length : Nat) ∧ w = wr) (fun _ i _ => ls.length - (intOf i).toNat)
  case atStart => exact ⟨0, by omega, rfl, rfl, rfl⟩
  case round =>
    obtain ⟨k, hk, rfl, rfl, rfl⟩ := hrel
    by_cases hlt : k < ls.length
    · obtain ⟨b, off, rfl, hbl, hcell⟩ := HX.out.addr (by omega)
      have hc := hcell k hlt
      have hl1 := HLE.out k hk
      have hl2 := HLE.out (k + 1) hlt
      have HS := Lib.hid (catTo_succ ls k hlt)
      obtain ⟨x, hx⟩ : ∃ x, x = ls[k]'(by omega) := ⟨_, rfl⟩
      rw [← hx] at hc HS
      obtain ⟨xa, xc, xx⟩ := x
      simp only [RS.val] at hc HS
      have hsum : (catTo ls (k + 1)).length = (catTo ls k).length + xx.length := by rw [HS.out, List.length_append]
      rw [hsum] at hl2
      obtain ⟨M, hM⟩ : ∃ M, M = xx.length := ⟨_, rfl⟩
      rw [← hM] at hc hsum hl2
      have HSU := Lib.hid hsum
      obtain ⟨A, hA⟩ : ∃ A, A = (catTo ls k).length := ⟨_, rfl⟩
      rw [← hA] at HSU hl1 hl2 ⊢
      clear hcell HS hx hM hsum hA
      have w1 : IntKind.i64.wrap ((A : Int) + (M : Int)) = (A : Int) + (M : Int) := by simp [IntKind.wrap, IntKind.bits, IntKind.signed]; omega
      have d1 : decide ((A : Int) + (M : Int) < 0) = false := decide_eq_false (by omega)
      go_wp2_with fail
      go_roundw
      case rel => exact ⟨k + 1, by omega, by go_num, by rw [HSU.out]; go_num, trivial⟩
      case measure => simp [intOf]; omega
    · obtain rfl : k = ls.length := by omega
      rw [← HR.out]
      go_wp2_with fail
      with_reducible refine (grow_any R.length h0 hn _).mono ?_
      rintro e w1 ⟨v1, rfl, ho1, hk1⟩
      have HO := Lib.hid ho1
      have HK := Lib.hid hk1
      clear ho1 hk1 hlt
      go_wp2_with fail
      go_loopw [6, 27] (fun v i wr => ∃ k : Nat, k ≤ ls.length ∧ i = .int .i64 k ∧ Hid (OwnP wr w.heap.size v (catTo ls k)) ∧ Hid (Keeps w wr)) (fun _ i _ => ls.length - (intOf i).toNat)
      case atStart => exact ⟨0, by omega, rfl, HO, HK⟩
      case round =>
        clear HO HK
        obtain ⟨k, hk, rfl, HO, HK⟩ := hrel
        have hsz := HK.out.size
        by_cases hlt : k < ls.length
        · obtain ⟨b, off, rfl, hbl, hcell⟩ := HX.out.addr (by omega)
          have hc := HK.out.later (hcell k hlt)
          have hl2 := HLE.out (k + 1) hlt
          have HS := Lib.hid (catTo_succ ls k hlt)
          have HRW := Lib.hid ((HX.out.row k hlt).keeps HK.out)
          obtain ⟨x, hx⟩ : ∃ x, x = ls[k]'(by omega) := ⟨_, rfl⟩
          rw [← hx] at hc HS HRW
          obtain ⟨xa, xc, xx⟩ := x
          simp only [RS.val] at hc HS HRW
          rw [HS.out, List.length_append] at hl2
          clear hcell hx
          go_wp2_with (refine wpList_joinP rfl _ _ rfl w.heap.size _ _ rfl (by exact HO.out) xa xx.length xc xx rfl (by exact HRW.out) (by omega) (by omega) ?hmain)
          case hmain =>
            intro v' w5 hown hg
            rw [← HS.out] at hown
            have HO5 := Lib.hid hown
            have HK5 : Hid (Keeps w w5) := Lib.hid (hg.keeps HK.out (fun k hk => (HO.out.lt k hk).1))
            clear hown hg HO HK HS
            go_wp2_with fail
            go_roundw
            case rel => exact ⟨k + 1, by omega, by go_num, HO5, HK5⟩
            case measure => simp [intOf]; omega
        · obtain rfl : k = ls.length := by omega
          rw [← HR.out] at HO
          go_wp2_with fail
          go_ret
          exact ⟨_, rfl, HO.out, HK.out⟩
end Go.Proofs.Ytdjbalaicfienaa
