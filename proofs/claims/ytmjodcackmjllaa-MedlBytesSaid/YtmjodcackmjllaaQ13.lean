/- The reference's number and list. -/
import Derived.Test.YtmjodcackmjllaaQ11
import Derived.Deep.DeepCutAuto
namespace Go.Proofs.Ytmjodcackmjllaa
open Go.RowKit
set_option linter.unusedVariables false
set_option linter.unusedSimpArgs false
set_option maxRecDepth 100000 in
set_option maxHeartbeats 1000000 in
theorem rnumber_any (a : Option Addr) (cap : Nat) (l : List Nat) (w : World) (hr : RowV w a l.length (u8s l)) (hc : l.length ≤ cap) (hc2 : cap ≤ 9223372036854775807) (h7 : l.length ≤ 7) (hb : ∀ x ∈ l, x < 256) :
    Calls Try.prog 96 #[.slice a l.length cap] w fun e w' => e = .returned (.int .i64 (numB l 0 l.length : Nat)) ∧ w' = w := by
  have HR := Lib.hid hr
  have HNB : Hid (∀ k, k ≤ 7 → numB l 0 k < 72057594037927936) := Lib.hid (fun k hk => Nat.lt_of_lt_of_le (numB_lt l hb 0 k) (Nat.pow_le_pow_right (by decide) hk : _ ≤ 256 ^ 7))
  have HGD : Hid (∀ j, l.getD j 0 < 256) := Lib.hid (getD_lt hb)
  clear hr hb
  go_enter Try.func96, Try.ntmps96
  go_wp2_with fail
  go_loop [3, 4] (fun v i => ∃ k : Nat, k ≤ l.length ∧ i = .int .i64 k ∧ v = .int .i64 (numB l 0 k : Nat)) (fun _ i => l.length - (intOf i).toNat)
  case atStart => exact ⟨0, by omega, rfl, rfl⟩
  case round =>
    obtain ⟨k, hk, rfl, rfl⟩ := hrel
    by_cases hlt : k < l.length
    · obtain ⟨b, off, rfl, hcell, -⟩ := HR.out.addr (by omega)
      have hc0 := (hcell k hlt).trans (show (u8s l)[k]? = some (.int .u8 (l.getD k 0 : Nat)) by simp [u8s, hlt])
      have HS : Hid (numB l 0 (k + 1) = 256 * numB l 0 k + l.getD k 0) := Lib.hid (by simp [numB])
      have hx := HGD.out k
      have hy := HNB.out (k + 1) (by omega)
      rw [HS.out] at hy
      obtain ⟨X, hX⟩ : ∃ X, X = l.getD k 0 := ⟨_, rfl⟩
      obtain ⟨Y, hY⟩ : ∃ Y, Y = numB l 0 k := ⟨_, rfl⟩
      rw [← hX] at hc0 HS hx hy
      rw [← hY] at HS hy ⊢
      have hd1 : decide ((k : Int) < l.length) = true := by simp; omega
      have hd2 : decide (k < l.length) = true := by simp; omega
      clear hcell hX hY
      go_wp2_with fail
      go_round
      case rel => exact ⟨k + 1, by omega, by go_num, by rw [HS.out]; go_num⟩
      case measure => simp [intOf]; omega
    · obtain rfl : k = l.length := by omega
      have hd1 : decide ((l.length : Int) < l.length) = false := by simp
      have hd2 : decide (l.length < l.length) = false := by simp
      go_wp2_with fail
      go_ret
      exact ⟨rfl, rfl⟩
theorem tmod_at_fin : ∀ k : Fin 8, ∀ x : Fin 256, (((x.val : Int) / 2 ^ k.val).tmod 2 == 1) = truthAt (x.val : Int) k.val := by decide +kernel
theorem tmod_at (c k : Nat) (hk : k < 8) (hc : c < 256) : (((c : Int) / 2 ^ k).tmod 2 == 1) = truthAt (c : Int) k := tmod_at_fin ⟨k, hk⟩ ⟨c, hc⟩
theorem truthsOf_succ (c : Int) (k : Nat) : truthsOf c (k + 1) = truthsOf c k ++ [truthAt c k] := by simp [truthsOf, List.range_succ]
set_option maxRecDepth 100000 in
set_option maxHeartbeats 1000000 in
theorem rlist7_any (c n : Nat) (w : World) (hc : c < 256) (hn : n ≤ 8) :
    Calls Try.prog 97 #[.int .u8 c, .int .i64 n] w fun e w' => ∃ v, e = .returned v ∧ Own w' w.heap.size 4 v ((truthsOf (c : Int) n).map Value.bool) ∧ Keeps w w' := by
  go_enter Try.func97, Try.ntmps97
  go_wp2_with fail
  go_loopw [5, 6] (fun v i wr => ∃ k : Nat, k ≤ n ∧ i = .int .i64 k ∧ Hid (Own wr w.heap.size 4 v ((truthsOf (c : Int) k).map Value.bool)) ∧ Hid (Keeps w wr)) (fun _ i _ => n - (intOf i).toNat)
  case atStart => exact ⟨0, by omega, rfl, Lib.hid (Own.nil _ _ _), Lib.hid (Keeps.refl w)⟩
  case round =>
    obtain ⟨k, hk, rfl, HO, HK⟩ := hrel
    by_cases hlt : k < n
    · have HS := Lib.hid (show ((truthsOf (c : Int) (k + 1)).map Value.bool) = (truthsOf (c : Int) k).map Value.bool ++ [.bool (truthAt c k)] by rw [truthsOf_succ]; simp)
      have hws := HK.out.size
      have HAT := Lib.hid (tmod_at c k (by omega) hc)
      have hll : ((truthsOf (c : Int) k).map Value.bool).length = k := by simp [truthsOf_len]
      have hd1 : decide ((k : Int) < n) = true := by simp; omega
      have hd2 : decide (k < n) = true := by simp; omega
      go_wp2_with (refine wpList_push rfl (.tmp 12) (.tmp 19) 22 rfl 4 1 (.bool false) Try.underlying22 infoB9 rfl w.heap.size _ _ rfl (by exact HO.out.keeps ((Keeps.refl _).alloc _)) _ _ rfl (by exact World.cell?_alloc_new _ _ _ _) rfl ?h1 ?h2 ?h3 ?hmain)
      case h1 => rw [hll]; omega
      case h2 => rw [hll]; omega
      case h3 => simp; omega
      case hmain =>
        intro v2 w3 hown hbel
        have HO3 : Hid (Own w3 w.heap.size 4 v2 ((truthsOf (c : Int) (k + 1)).map Value.bool)) := Lib.hid (by
          rw [HS.out, ← HAT.out]; exact hown)
        have HK3 : Hid (Keeps w w3) := Lib.hid ((HK.out.alloc _).below hbel (Nat.le_refl _))
        clear hown hbel HO HK
        go_wp2_with fail
        go_roundw
        case rel => exact ⟨k + 1, by omega, by go_num, HO3, HK3⟩
        case measure => simp [intOf]; omega
    · obtain rfl : k = n := by omega
      have hd1 : decide ((k : Int) < k) = false := by simp
      have hd2 : decide (k < k) = false := by simp
      go_wp2_with fail
      go_ret
      exact ⟨_, rfl, HO.out, HK.out⟩
end Go.Proofs.Ytmjodcackmjllaa
