/- The walks of the reference of layer 1, 2: List. -/
import Derived.Test.YtmjodcackmjllaaW4
namespace Go.Proofs.Ytmjodcackmjllaa
open Go.RowKit
set_option linter.unusedVariables false
set_option linter.unusedSimpArgs false

theorem info_bool : (Try.prog.info? 4).map (fun i => (i.zero, i.size, i.bytes)) = some (some (.bool false), 1, 1) := by kernel_rfl

/-- the first k truths, as cells -/
def bVals (bs : List Bool) (k : Nat) : List Value := (bs.take k).map Value.bool
theorem bVals_zero (bs : List Bool) : bVals bs 0 = [] := rfl
theorem bVals_succ (bs : List Bool) (k : Nat) (h : k < bs.length) : bVals bs (k + 1) = bVals bs k ++ [Value.bool (bs.getD k false)] := by
  unfold bVals
  rw [List.take_succ_eq_append_getElem h, List.map_append]
  congr 1
  simp [List.getD_eq_getElem?_getD, h]
theorem bVals_len (bs : List Bool) (k : Nat) (h : k ≤ bs.length) : (bVals bs k).length = k := by simp [bVals, h]
theorem bVals_all (bs : List Bool) : bVals bs bs.length = bs.map Value.bool := by simp [bVals]

theorem rbit_ok (a : Option Addr) (len cap : Nat) (bs : List Bool) (iv : Int) (i : Nat) (b : Bool) (w : World) (hiv : iv = i) (hb : bs.getD i false = b) (hrow : Row w .u8 a len (pack bs)) (hcap : len ≤ cap) (hmax : cap ≤ 9223372036854775807) (hi : i < bs.length) (h4 : bs.length ≤ 4096) :
    Calls Try.prog 116 #[.slice a len cap, .int .i64 iv] w fun e w' => e = .returned (.bool b) ∧ w' = w := by
  have hl := hrow.1
  rw [pack_len] at hl
  have h := rbit_any a len cap (pack bs) iv i w hiv hrow (pack_lt bs) hcap hmax (by omega) (by omega)
  rw [bitAt_pack, hb] at h
  exact h

set_option maxHeartbeats 400000 in
theorem rlist_ok (x : RB) (bs : List Bool) (w : World) (hx : x.Is w bs) :
    Calls Try.prog 112 #[x.val] w fun e w' => ∃ v, e = .returned v ∧ Own w' (w.heap.size + 1) 4 v (bs.map Value.bool) ∧ Keeps w w' := by
  have hmost := hx.most
  have HC := Lib.hid hx.chk
  have HX := Lib.hid hx
  have HR := Lib.hid hx.isIn.row
  have hcap := hx.isIn.cap
  have hmax := hx.isIn.max
  obtain ⟨a, cap, rfl⟩ := hx.shape
  simp only at hcap hmax
  clear hx
  show Calls Try.prog 112 #[.agg #[.int .i64 bs.length, .slice a ((bs.length + 7) / 8) cap]] w _
  go_enter Try.func112, Try.ntmps112
  go_wp2_with fail
  with_reducible refine (rcheck_yes ⟨bs.length, a, (bs.length + 7) / 8, cap, pack bs⟩ _ (by exact HX.out.isIn.keeps ((Keeps.refl w).alloc _)) HC.out).mono ?_
  rintro e w1 ⟨rfl, hk1⟩
  have hb0 := hk1.box 0 _ rfl
  have hb1 := hk1.box 1 _ rfl
  have hz1 := hk1.box_lt
  have HK := Lib.hid hk1.unbox
  clear hk1
  go_wp2_with fail
  go_loopw [3, 4] (fun v i wr => ∃ k : Nat, k ≤ bs.length ∧ i = .int .i64 k ∧ Hid (Own wr (w.heap.size + 1) 4 v (bVals bs k)) ∧ wr.cell? ⟨w.heap.size, 0, none⟩ = some (.int .i64 bs.length) ∧
      wr.cell? ⟨w.heap.size, 1, none⟩ = some (.slice a ((bs.length + 7) / 8) cap) ∧ w.heap.size < wr.heap.size ∧ Hid (Keeps w wr)) (fun _ i _ => bs.length - (intOf i).toNat)
  case atStart => exact ⟨0, Nat.zero_le _, rfl, Own.nil _ _ _, hb0, hb1, hz1, HK⟩
  case round =>
    clear hb0 hb1 hz1 HK
    obtain ⟨k, hk, rfl, HO, hb0, hb1, hzr, hkr⟩ := hrel
    by_cases hlt : k < bs.length
    · obtain ⟨b, hb⟩ : ∃ b, bs.getD k false = b := ⟨_, rfl⟩
      have HB := Lib.hid hb
      clear hb
      go_wp2_with fail
      with_reducible refine (rbit_ok a ((bs.length + 7) / 8) cap bs _ k b _ rfl HB.out (by exact HR.out.keeps hkr.out) hcap hmax hlt hmost).mono ?_
      rintro e w' ⟨rfl, rfl⟩
      go_wp2_with (refine wpList_push rfl (.tmp 14) (.tmp 19) 22 rfl 4 1 (.bool false) Try.underlying22 info_bool rfl (w.heap.size + 1) _ _ rfl (by exact HO.out.keeps ((Keeps.refl _).alloc _)) _ _ rfl (by exact World.cell?_alloc_new _ _ _ _) rfl ?h1 ?h2 ?h3 ?hmain)
      case h1 => rw [bVals_len _ _ hk]; omega
      case h2 => rw [bVals_len _ _ hk]; omega
      case h3 => simp; omega
      case hmain =>
        intro v2 w2 hown hbel
        have hb0' : w2.cell? ⟨w.heap.size, 0, none⟩ = _ := (hbel.cell (p := ⟨w.heap.size, 0, none⟩) (by simp)).trans ((World.cell?_alloc_past _ _ _ hzr).trans hb0)
        have hb1' : w2.cell? ⟨w.heap.size, 1, none⟩ = _ := (hbel.cell (p := ⟨w.heap.size, 1, none⟩) (by simp)).trans ((World.cell?_alloc_past _ _ _ hzr).trans hb1)
        have hz2 : w.heap.size < w2.heap.size := by have := hbel.size; simp at this; omega
        have HK2 : Hid (Keeps w w2) := (hkr.out.alloc _).below hbel (by omega)
        have HO2 : Hid (Own w2 (w.heap.size + 1) 4 v2 (bVals bs (k + 1))) := by
          rw [bVals_succ _ _ hlt, HB.out]; exact hown
        clear hown hbel hb0 hb1 HO hkr hzr
        go_wp2_with fail
        go_roundw
        case rel => exact ⟨k + 1, by omega, by go_num, HO2, hb0', hb1', hz2, HK2⟩
        case measure => simp [intOf]; omega
    · obtain rfl : k = bs.length := by omega
      go_wp2_with fail
      go_ret
      exact ⟨_, rfl, by rw [← bVals_all]; exact HO.out, hkr.out⟩
set_option maxHeartbeats 400000 in
theorem rlist_no (x : RB) (w : World) (hx : x.In w) (hc : chk x.n x.l = false) :
    Calls Try.prog 112 #[x.val] w fun e w' => e = .returned (.slice none 0 0) ∧ Keeps w w' := by
  have HX := Lib.hid hx
  have HC := Lib.hid hc
  clear hx hc
  obtain ⟨n, a, len, cap, l⟩ := x
  show Calls Try.prog 112 #[.agg #[.int .i64 n, .slice a len cap]] w _
  go_enter Try.func112, Try.ntmps112
  go_wp2_with fail
  with_reducible refine (rcheck_no ⟨n, a, len, cap, l⟩ _ (by exact HX.out.keeps ((Keeps.refl w).alloc _)) HC.out).mono ?_
  rintro e w1 ⟨rfl, hk1⟩
  go_wp2_with fail
  go_ret
  exact ⟨rfl, hk1.unbox⟩
end Go.Proofs.Ytmjodcackmjllaa
