/- The reference's Text and Ones; bits.Ones. -/
import Derived.Test.YtkbdpdcandpfdaaW33
import Derived.Test.YtkbdpdcandpfdaaW16
import Derived.Test.YtkbdpdcandpfdaaW5
namespace Go.Proofs.Ytkbdpdcandpfdaa
open Go.RowKit Go.Shelf
set_option linter.unusedVariables false
set_option linter.unusedSimpArgs false

theorem list_any (x : RB) (w : World) (hx : x.In w) :
    Calls Try.prog 34 #[x.val] w fun e w' => ∃ v, e = .returned v ∧ Own w' (w.heap.size + 1) 4 v ((listOf x).map Value.bool) ∧ Keeps w w' := by
  unfold listOf
  cases hc : chk x.n x.l
  · exact (rlist_no x w hx hc).mono fun e w' ⟨h1, h2⟩ => ⟨_, h1, Own.nil _ _ _, h2⟩
  · exact rlist_ok x x.bits w (hx.is hc)
theorem listOf_len {x : RB} {w : World} (hx : x.In w) : (listOf x).length ≤ 4096 := by
  unfold listOf
  cases hc : chk x.n x.l
  · simp
  · exact (hx.is hc).most
/-- the first k digits, as cells -/
def digVals (bs : List Bool) (k : Nat) : List Value := (bs.take k).map fun b => Value.int .u8 (if b then 49 else 48)
theorem digVals_zero (bs : List Bool) : digVals bs 0 = [] := rfl
theorem digVals_len (bs : List Bool) (k : Nat) (h : k ≤ bs.length) : (digVals bs k).length = k := by simp [digVals, h]
theorem digVals_succ (bs : List Bool) (k : Nat) (h : k < bs.length) : digVals bs (k + 1) = digVals bs k ++ [Value.int .u8 (if bs.getD k false then 49 else 48)] := by
  unfold digVals
  rw [List.take_succ_eq_append_getElem h, List.map_append]
  simp only [List.getD_eq_getElem?_getD, List.getElem?_eq_getElem h, Option.getD_some, List.map_cons, List.map_nil]
theorem digVals_row {w : World} {base : Nat} {v : Value} {bs : List Bool} (h : Own w base 5 v (digVals bs bs.length)) :
    ∃ a cap, v = .slice a bs.length cap ∧ Row w .u8 a bs.length (bs.map fun b => if b then 49 else 48) := by
  obtain ⟨a, cap, h1, h2, h3, h4⟩ := h.shape
  rw [digVals_len _ _ (Nat.le_refl _)] at h1 h2 h4
  refine ⟨a, cap, h1, by simp, fun i hi => ?_⟩
  obtain ⟨b, off, hab, hc⟩ := h4.2 i hi
  refine ⟨b, off, hab, ?_⟩
  rw [hc]
  simp [digVals, List.getD_eq_getElem?_getD, hi]
  cases bs[i] <;> rfl
theorem digits_str (bs : List Bool) : strOf (bs.map fun b => if b then 49 else 48) = ⟨(digits bs).toArray⟩ := by
  unfold strOf digits
  congr 2
  rw [List.map_map]
  apply List.map_congr_left
  intro b _
  cases b <;> rfl

set_option maxRecDepth 100000 in
set_option maxHeartbeats 1000000 in
theorem rtext_any (x : RB) (w : World) (hx : x.In w) :
    Calls Try.prog 30 #[x.val] w fun e w' => e = .returned (.string ⟨(digits (listOf x)).toArray⟩) ∧ Keeps w w' := by
  have HX := Lib.hid hx
  have hlen := listOf_len hx
  obtain ⟨L, hL⟩ : ∃ L, L = listOf x := ⟨_, rfl⟩
  have HL := Lib.hid hL
  rw [← hL] at hlen ⊢
  clear hx hL
  have HDS := Lib.hid (digits_str L)
  obtain ⟨n, a, len, cap, l⟩ := x
  show Calls Try.prog 30 #[.agg #[.int .i64 n, .slice a len cap]] w _
  go_enter Try.func30, Try.ntmps30
  go_wp2_with fail
  with_reducible refine (list_any ⟨n, a, len, cap, l⟩ _ (by exact HX.out.keeps ((Keeps.refl w).alloc _))).mono ?_
  rw [← HL.out]
  rintro e w1 ⟨lv, rfl, hown, hk1⟩
  obtain ⟨la, lcap, rfl, hlc, hlm, hlr⟩ := hown.shape
  simp only [List.length_map] at hlc hlr ⊢
  have HR := Lib.hid hlr
  have HK := Lib.hid hk1.unbox
  clear hown hk1 hlr
  go_wp2_with fail
  go_loopw [3, 5] (fun v i wr => ∃ k : Nat, k ≤ L.length ∧ i = .int .i64 k ∧ Hid (Own wr w1.heap.size 5 v (digVals L k)) ∧ Hid (Keeps w1 wr)) (fun _ i _ => L.length - (intOf i).toNat)
  case atStart => exact ⟨0, Nat.zero_le _, rfl, Own.nil _ _ _, Keeps.refl _⟩
  case round =>
    obtain ⟨k, hk, rfl, HO, HK1⟩ := hrel
    have hsz := HK1.out.size
    by_cases hlt : k < L.length
    · obtain ⟨b, off, rfl, hc, hb⟩ := (HR.out.keeps HK1.out).boolAt (by omega)
      have hcell := hc k hlt
      clear hc
      have hs := digVals_succ L k hlt
      obtain ⟨y, hy⟩ : ∃ y, L.getD k false = y := ⟨_, rfl⟩
      rw [hy] at hcell hs
      have HS := Lib.hid hs
      have HLN := Lib.hid (digVals_len L k hk)
      clear hy hs
      cases y
      · go_wp2_with (refine wpList_push rfl (.tmp 21) (.tmp 22) 30 rfl 5 1 (.int .u8 0) Try.underlying30 info_u8 rfl w1.heap.size _ _ rfl (by exact HO.out.keeps ((Keeps.refl _).alloc _)) _ _ rfl (by exact World.cell?_alloc_new _ _ _ _) rfl ?h1 ?h2 ?h3 ?hmain)
        case h1 => rw [HLN.out]; omega
        case h2 => rw [HLN.out]; omega
        case h3 => (try simp); omega
        case hmain =>
          intro v2 w2 hown hbel
          have HK2 : Hid (Keeps w1 w2) := (HK1.out.alloc _).below hbel (Nat.le_refl _)
          have HO2 : Hid (Own w2 w1.heap.size 5 v2 (digVals L (k + 1))) := by rw [HS.out]; exact hown
          clear hown hbel HO HK1 hcell
          go_wp2_with fail
          go_roundw
          case rel => exact ⟨k + 1, by omega, by go_num, HO2, HK2⟩
          case measure => simp [intOf]; omega
      · go_wp2_with (refine wpList_push rfl (.tmp 18) (.tmp 19) 30 rfl 5 1 (.int .u8 0) Try.underlying30 info_u8 rfl w1.heap.size _ _ rfl (by exact HO.out.keeps ((Keeps.refl _).alloc _)) _ _ rfl (by exact World.cell?_alloc_new _ _ _ _) rfl ?h1' ?h2' ?h3' ?hmain')
        case h1' => rw [HLN.out]; omega
        case h2' => rw [HLN.out]; omega
        case h3' => (try simp); omega
        case hmain' =>
          intro v2 w2 hown hbel
          have HK2 : Hid (Keeps w1 w2) := (HK1.out.alloc _).below hbel (Nat.le_refl _)
          have HO2 : Hid (Own w2 w1.heap.size 5 v2 (digVals L (k + 1))) := by rw [HS.out]; exact hown
          clear hown hbel HO HK1 hcell
          go_wp2_with fail
          go_roundw
          case rel => exact ⟨k + 1, by omega, by go_num, HO2, HK2⟩
          case measure => simp [intOf]; omega
    · obtain rfl : k = L.length := by omega
      obtain ⟨sa, scap, rfl, hrow⟩ := digVals_row HO.out
      have hconv := Row.str (cap := scap) hrow
      rw [HDS.out] at hconv
      clear hrow
      go_wp2_with fail
      go_ret
      exact ⟨rfl, HK.out.trans HK1.out⟩

/-- how many of the first k are 1 -/
def cnt (bs : List Bool) (k : Nat) : Nat := ((bs.take k).filter id).length
theorem cnt_zero (bs : List Bool) : cnt bs 0 = 0 := rfl
theorem cnt_le (bs : List Bool) (k : Nat) : cnt bs k ≤ k := Nat.le_trans (List.length_filter_le _ _) (List.length_take_le _ _)
theorem cnt_succ (bs : List Bool) (k : Nat) (h : k < bs.length) : cnt bs (k + 1) = cnt bs k + (bs.getD k false).toNat := by
  unfold cnt
  rw [List.take_succ_eq_append_getElem h, List.filter_append, List.length_append]
  simp only [List.getD_eq_getElem?_getD, List.getElem?_eq_getElem h, Option.getD_some]
  cases bs[k] <;> rfl

set_option maxRecDepth 100000 in
set_option maxHeartbeats 1000000 in
theorem rones_any (x : RB) (w : World) (hx : x.In w) :
    Calls Try.prog 39 #[x.val] w fun e w' => e = .returned (.int .i64 (cnt (listOf x) (listOf x).length : Nat)) ∧ Keeps w w' := by
  have HX := Lib.hid hx
  have hlen := listOf_len hx
  obtain ⟨L, hL⟩ : ∃ L, L = listOf x := ⟨_, rfl⟩
  have HL := Lib.hid hL
  rw [← hL] at hlen ⊢
  clear hx hL
  obtain ⟨n, a, len, cap, l⟩ := x
  show Calls Try.prog 39 #[.agg #[.int .i64 n, .slice a len cap]] w _
  go_enter Try.func39, Try.ntmps39
  go_wp2_with fail
  with_reducible refine (list_any ⟨n, a, len, cap, l⟩ _ (by exact HX.out.keeps ((Keeps.refl w).alloc _))).mono ?_
  rw [← HL.out]
  rintro e w1 ⟨lv, rfl, hown, hk1⟩
  obtain ⟨la, lcap, rfl, hlc, hlm, hlr⟩ := hown.shape
  simp only [List.length_map] at hlc hlr ⊢
  have HR := Lib.hid hlr
  have HK := Lib.hid hk1.unbox
  clear hown hk1 hlr
  go_wp2_with fail
  go_loop [3, 5] (fun v i => ∃ k : Nat, k ≤ L.length ∧ i = .int .i64 k ∧ v = .int .i64 (cnt L k : Nat)) (fun _ i => L.length - (intOf i).toNat)
  case atStart => exact ⟨0, Nat.zero_le _, rfl, rfl⟩
  case round =>
    obtain ⟨k, hk, rfl, rfl⟩ := hrel
    by_cases hlt : k < L.length
    · obtain ⟨b, off, rfl, hc, hb⟩ := HR.out.boolAt (by omega)
      have hcell := hc k hlt
      clear hc
      have hs := cnt_succ L k hlt
      have hcl := cnt_le L k
      obtain ⟨y, hy⟩ : ∃ y, L.getD k false = y := ⟨_, rfl⟩
      rw [hy] at hcell hs
      obtain ⟨q, hq⟩ : ∃ q, q = cnt L k := ⟨_, rfl⟩
      rw [← hq] at hs hcl ⊢
      have HS := Lib.hid hs
      clear hy hs hq
      cases y
      · go_wp2_with fail
        go_round
        case rel => exact ⟨k + 1, by omega, by go_num, by rw [HS.out]; rfl⟩
        case measure => simp [intOf]; omega
      · go_wp2_with fail
        go_round
        case rel => exact ⟨k + 1, by omega, by go_num, by rw [HS.out]; exact int_val (by simp)⟩
        case measure => simp [intOf]; omega
    · obtain rfl : k = L.length := by omega
      go_wp2_with fail
      go_ret
      exact ⟨rfl, HK.out⟩
end Go.Proofs.Ytkbdpdcandpfdaa
