/- The reference of layer 4: Members, a list. -/
import Derived.Test.YtdjbalaicfienaaC17
namespace Go.Proofs.Ytdjbalaicfienaa
open Go.RowKit
set_option linter.unusedVariables false
set_option linter.unusedSimpArgs false

set_option maxRecDepth 100000 in
set_option maxHeartbeats 1000000 in
theorem rmembers_any (c : CS) (w : World) :
    Calls Try.prog 29 #[c.val] w fun e w' => ∃ v, e = .returned v ∧ Own w' (w.heap.size + 1) 3 v (i64s (memsTo c 8)) ∧ Keeps w w' := by
  obtain ⟨t, p, m, x, b⟩ := c
  have HB := Lib.hid (Box.new w 23 #[.int .i64 t, .int .i64 p, .int .i64 m, .int .i64 x, .int .i64 b])
  have HK := Lib.hid ((Keeps.refl w).alloc (.cells #[.int .i64 t, .int .i64 p, .int .i64 m, .int .i64 x, .int .i64 b] 23))
  show Calls Try.prog 29 #[.agg #[.int .i64 t, .int .i64 p, .int .i64 m, .int .i64 x, .int .i64 b]] w _
  go_enter Try.func29, Try.ntmps29
  go_wp2_with fail
  go_loopw [3, 4] (fun v i wr => ∃ k : Nat, k ≤ 8 ∧ i = .int .i64 k ∧ Hid (Own wr (w.heap.size + 1) 3 v (i64s (memsTo ⟨t, p, m, x, b⟩ k))) ∧ Hid (Box wr w.heap.size 23 #[.int .i64 t, .int .i64 p, .int .i64 m, .int .i64 x, .int .i64 b]) ∧ Hid (Keeps w wr)) (fun _ i _ => 8 - (intOf i).toNat)
  case atStart => exact ⟨0, Nat.zero_le _, rfl, Own.nil _ _ _, HB, HK⟩
  case round =>
    clear HB HK
    obtain ⟨k, hk, rfl, HO, HB, HK⟩ := hrel
    have a0 := HB.out.cell 0 _ rfl
    have a1 := HB.out.cell 1 _ rfl
    have a2 := HB.out.cell 2 _ rfl
    have a3 := HB.out.cell 3 _ rfl
    have a4 := HB.out.cell 4 _ rfl
    have hbl := HB.out.lt
    by_cases hlt : k < 8
    · cases hh : hasOf ⟨t, p, m, x, b⟩ (k : Int)
      · have HS := Lib.hid (memsTo_no hh)
        have HH := Lib.hid hh
        clear hh
        go_wp2_with fail
        with_reducible refine (rchas_any ⟨t, p, m, x, b⟩ k _).mono ?_
        rw [HH.out]
        rintro e w2 ⟨rfl, hk2⟩
        replace HO := Lib.hid (HO.out.keeps hk2)
        replace HB := Lib.hid (HB.out.keeps hk2)
        replace HK := Lib.hid (HK.out.trans hk2)
        clear hk2 a0 a1 a2 a3 a4 hbl
        go_wp2_with fail
        go_roundw
        case rel => exact ⟨k + 1, by omega, by go_num, by rw [HS.out]; exact HO, HB, HK⟩
        case measure => simp [intOf]; omega
      · have HS := Lib.hid (memsTo_yes hh)
        have HH := Lib.hid hh
        have HLE : (memsTo ⟨t, p, m, x, b⟩ k).length ≤ k := by
          have := List.length_filter_le (fun j : Nat => hasOf ⟨t, p, m, x, b⟩ (j : Int)) (List.range k)
          rwa [List.length_range] at this
        clear hh
        go_wp2_with fail
        with_reducible refine (rchas_any ⟨t, p, m, x, b⟩ k _).mono ?_
        rw [HH.out]
        rintro e w2 ⟨rfl, hk2⟩
        replace HO := Lib.hid (HO.out.keeps hk2)
        replace HB := Lib.hid (HB.out.keeps hk2)
        replace HK := Lib.hid (HK.out.trans hk2)
        clear hk2 a0 a1 a2 a3 a4 hbl
        have hbl := HB.out.lt
        have hlen := HLE
        go_wp2_with (refine wpList_push rfl (.tmp 12) (.tmp 14) 43 rfl 3 8 (.int .i64 0) Try.underlying43 info_int4 rfl (w.heap.size + 1) _ _ rfl (by exact HO.out.keeps ((Keeps.refl _).alloc _)) _ _ rfl (by exact World.cell?_alloc_new _ _ _ _) rfl ?h1 ?h2 ?h3 ?hmain)
        case h1 => simp; omega
        case h2 => simp; omega
        case h3 => simp; omega
        case hmain =>
          intro v2 w3 hown hbel
          have hk3 : Below (w.heap.size + 1) w2 w3 := (((Below.refl _ w2).alloc (by omega) _)).trans hbel
          have HB3 := Lib.hid (Box.below HB.out hk3 (by omega))
          have HK3 : Hid (Keeps w w3) := (HK.out.alloc _).below hbel (by omega)
          have HO3 : Hid (Own w3 (w.heap.size + 1) 3 v2 (i64s (memsTo ⟨t, p, m, x, b⟩ (k + 1)))) := by
            refine Lib.hid ?_; rw [HS.out]; simpa [i64s] using hown
          clear hown hbel hk3 HO HB HK hbl
          go_wp2_with fail
          go_roundw
          case rel => exact ⟨k + 1, by omega, by go_num, HO3, HB3, HK3⟩
          case measure => simp [intOf]; omega
    · obtain rfl : k = 8 := by omega
      go_wp2
      go_ret
      exact ⟨_, rfl, HO.out, HK.out⟩
end Go.Proofs.Ytdjbalaicfienaa
