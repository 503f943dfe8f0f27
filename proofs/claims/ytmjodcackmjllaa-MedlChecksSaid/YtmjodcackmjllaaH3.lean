/- The walks of layer 7, 17: slices.Repeat and slices.Clone of 4 to 8. -/
import Derived.Test.YtmjodcackmjllaaN6
namespace Go.Proofs.Ytmjodcackmjllaa
open Go.RowKit Go.Shelf
set_option linter.unusedVariables false
set_option linter.unusedSimpArgs false
set_option maxRecDepth 100000 in
theorem mul64_5 (w : World) : Calls Try.prog 106 #[.int .u64 1, .int .u64 5] w fun e w' => e = .returned (.tuple #[.int .u64 0, .int .u64 5]) ∧ Keeps w w' := by
  have hA : bits .and .u64 1 4294967295 = 1 := by decide +kernel
  have hB : bits .and .u64 5 4294967295 = 5 := by decide +kernel
  have hC : bits .and .u64 0 4294967295 = 0 := by decide +kernel
  have hw0 : IntKind.u64.wrap 0 = 0 := by decide +kernel
  have hw4 : IntKind.u64.wrap 5 = 5 := by decide +kernel
  go_enter Try.func106, Try.ntmps106
  go_wp2_with fail
  go_ret2
  exact ⟨rfl, Keeps.refl _⟩
set_option maxRecDepth 100000 in
theorem mul_5 (w : World) : Calls Try.prog 100 #[.int .u64 1, .int .u64 5] w fun e w' => e = .returned (.tuple #[.int .u64 0, .int .u64 5]) ∧ Keeps w w' := by
  go_enter Try.func100, Try.ntmps100
  go_wp2_with fail
  with_reducible refine (mul64_5 _).mono ?_
  rintro e w1 ⟨rfl, hk1⟩
  go_wp2_with fail
  go_ret2
  exact ⟨rfl, hk1⟩
set_option maxRecDepth 100000 in
theorem mul64_6 (w : World) : Calls Try.prog 106 #[.int .u64 1, .int .u64 6] w fun e w' => e = .returned (.tuple #[.int .u64 0, .int .u64 6]) ∧ Keeps w w' := by
  have hA : bits .and .u64 1 4294967295 = 1 := by decide +kernel
  have hB : bits .and .u64 6 4294967295 = 6 := by decide +kernel
  have hC : bits .and .u64 0 4294967295 = 0 := by decide +kernel
  have hw0 : IntKind.u64.wrap 0 = 0 := by decide +kernel
  have hw4 : IntKind.u64.wrap 6 = 6 := by decide +kernel
  go_enter Try.func106, Try.ntmps106
  go_wp2_with fail
  go_ret2
  exact ⟨rfl, Keeps.refl _⟩
set_option maxRecDepth 100000 in
theorem mul_6 (w : World) : Calls Try.prog 100 #[.int .u64 1, .int .u64 6] w fun e w' => e = .returned (.tuple #[.int .u64 0, .int .u64 6]) ∧ Keeps w w' := by
  go_enter Try.func100, Try.ntmps100
  go_wp2_with fail
  with_reducible refine (mul64_6 _).mono ?_
  rintro e w1 ⟨rfl, hk1⟩
  go_wp2_with fail
  go_ret2
  exact ⟨rfl, hk1⟩
set_option maxRecDepth 100000 in
theorem mul64_7 (w : World) : Calls Try.prog 106 #[.int .u64 1, .int .u64 7] w fun e w' => e = .returned (.tuple #[.int .u64 0, .int .u64 7]) ∧ Keeps w w' := by
  have hA : bits .and .u64 1 4294967295 = 1 := by decide +kernel
  have hB : bits .and .u64 7 4294967295 = 7 := by decide +kernel
  have hC : bits .and .u64 0 4294967295 = 0 := by decide +kernel
  have hw0 : IntKind.u64.wrap 0 = 0 := by decide +kernel
  have hw4 : IntKind.u64.wrap 7 = 7 := by decide +kernel
  go_enter Try.func106, Try.ntmps106
  go_wp2_with fail
  go_ret2
  exact ⟨rfl, Keeps.refl _⟩
set_option maxRecDepth 100000 in
theorem mul_7 (w : World) : Calls Try.prog 100 #[.int .u64 1, .int .u64 7] w fun e w' => e = .returned (.tuple #[.int .u64 0, .int .u64 7]) ∧ Keeps w w' := by
  go_enter Try.func100, Try.ntmps100
  go_wp2_with fail
  with_reducible refine (mul64_7 _).mono ?_
  rintro e w1 ⟨rfl, hk1⟩
  go_wp2_with fail
  go_ret2
  exact ⟨rfl, hk1⟩
set_option maxRecDepth 100000 in
theorem mul64_8 (w : World) : Calls Try.prog 106 #[.int .u64 1, .int .u64 8] w fun e w' => e = .returned (.tuple #[.int .u64 0, .int .u64 8]) ∧ Keeps w w' := by
  have hA : bits .and .u64 1 4294967295 = 1 := by decide +kernel
  have hB : bits .and .u64 8 4294967295 = 8 := by decide +kernel
  have hC : bits .and .u64 0 4294967295 = 0 := by decide +kernel
  have hw0 : IntKind.u64.wrap 0 = 0 := by decide +kernel
  have hw4 : IntKind.u64.wrap 8 = 8 := by decide +kernel
  go_enter Try.func106, Try.ntmps106
  go_wp2_with fail
  go_ret2
  exact ⟨rfl, Keeps.refl _⟩
set_option maxRecDepth 100000 in
theorem mul_8 (w : World) : Calls Try.prog 100 #[.int .u64 1, .int .u64 8] w fun e w' => e = .returned (.tuple #[.int .u64 0, .int .u64 8]) ∧ Keeps w w' := by
  go_enter Try.func100, Try.ntmps100
  go_wp2_with fail
  with_reducible refine (mul64_8 _).mono ?_
  rintro e w1 ⟨rfl, hk1⟩
  go_wp2_with fail
  go_ret2
  exact ⟨rfl, hk1⟩
/-- m filled, the others empty -/
def filled7 (x z : Value) (m n : Nat) : List Value := List.replicate m x ++ List.replicate (n - m) z
theorem filled7_len {x z : Value} {m n : Nat} (h : m ≤ n) : (filled7 x z m n).length = n := by unfold filled7; simp; omega
theorem filled7_step {x z : Value} {m n c : Nat} (h : m + c ≤ n) : splice (filled7 x z m n) m (List.replicate c x) = filled7 x z (m + c) n := by
  have e : List.replicate (n - m) z = List.replicate c z ++ List.replicate (n - (m + c)) z := by rw [List.replicate_append_replicate]; congr 1; omega
  unfold splice filled7
  rw [e, ← List.replicate_append_replicate (n := m) (m := c)]
  rw [List.take_append_of_le_length (by simp), List.take_of_length_le (by simp), List.drop_append, List.drop_of_length_le (by simp), List.drop_append, List.drop_of_length_le (by simp)]
  simp
  rw [← List.append_assoc, List.replicate_append_replicate]
theorem filled7_full (x z : Value) (n : Nat) : filled7 x z n n = List.replicate n x := by unfold filled7; simp
theorem filled7_zero (x z : Value) (n : Nat) : filled7 x z 0 n = List.replicate n z := by unfold filled7; simp
theorem filled7_src {x z : Value} {w : World} {g t m n c : Nat} (h : Box w g t (filled7 x z m n).toArray) (hc : c ≤ m) : ∀ j v, (List.replicate c x)[j]? = some v → w.cell? ((⟨g, 0, none⟩ : Addr).add j) = some v := by
  intro j v hj
  have hl := (List.getElem?_eq_some_iff.1 hj).1
  rw [List.length_replicate] at hl
  have hcell := h.cell j v (by
    unfold filled7
    rw [List.getElem?_replicate, if_pos hl] at hj
    simp only [List.getElem?_toArray]
    rw [List.getElem?_append_left (by simp; omega), List.getElem?_replicate, if_pos (by omega)]
    exact hj)
  by_cases hj0 : j = 0
  · subst hj0; simpa [Addr.add] using hcell
  · simpa [Addr.add, hj0] using hcell
theorem box_bools {w : World} {G n : Nat} (h : Box w G 4 (List.replicate n (.bool true)).toArray) (hn : n ≤ 1000) : Bools w (.slice (some ⟨G, 0, none⟩) n n) (List.replicate n true) := by
  refine ⟨some ⟨G, 0, none⟩, n, by rw [List.length_replicate], by rw [List.length_replicate]; exact Nat.le_refl _, by omega, ?_⟩
  rw [List.length_replicate]
  refine ⟨by simp, fun i hi => ⟨G, 0, rfl, ?_⟩⟩
  have := h.cell i (.bool true) (by simp [hi])
  simpa [hi] using this
theorem box_ints {w : World} {G n : Nat} (h : Box w G 3 (List.replicate n (.int .i64 2)).toArray) (hn : n ≤ 1000) : Ints w (.slice (some ⟨G, 0, none⟩) n n) (List.replicate n 2) := by
  refine ⟨some ⟨G, 0, none⟩, n, by rw [List.length_replicate], by rw [List.length_replicate]; exact Nat.le_refl _, by omega, ?_⟩
  rw [List.length_replicate]
  refine ⟨by simp, fun i hi => ⟨G, 0, rfl, ?_⟩⟩
  have := h.cell i (.int .i64 2) (by simp [hi])
  simpa [hi] using this
set_option maxRecDepth 100000 in
set_option maxHeartbeats 2000000 in
theorem repB_any (B n : Nat) (w : World) (hB : Box w B 4 #[Value.bool true]) (h1 : 4 ≤ n) (h2 : n ≤ 8) : Calls Try.prog 67 #[.slice (some ⟨B, 0, none⟩) 1 1, .int .i64 n] w fun e w' => ∃ G, e = .returned (.slice (some ⟨G, 0, none⟩) n n) ∧ Box w' G 4 (List.replicate n (Value.bool true)).toArray ∧ w.heap.size ≤ G ∧ Keeps w w' := by
  have HMU : Hid (∀ w, Calls Try.prog 100 #[.int .u64 1, .int .u64 n] w fun e w' => e = .returned (.tuple #[.int .u64 0, .int .u64 n]) ∧ Keeps w w') := Lib.hid (fun w => by
    obtain rfl | rfl | rfl | rfl | rfl : n = 4 ∨ n = 5 ∨ n = 6 ∨ n = 7 ∨ n = 8 := by omega
    · exact mul_4 w
    · exact mul_5 w
    · exact mul_6 w
    · exact mul_7 w
    · exact mul_8 w)
  have hwu : IntKind.u64.wrap (n : Int) = n := by simp [IntKind.wrap, IntKind.bits, IntKind.signed]; omega
  have hwi : IntKind.i64.wrap (n : Int) = n := by simp [IntKind.wrap, IntKind.bits, IntKind.signed]; omega
  have hmk : ∀ w : World, (Instr.makeSlice 22 (.int .i64 n) (.int .i64 n)).run Try.prog w = .ok (.slice (some ⟨w.heap.size, 0, none⟩) n n) (w.alloc (.cells (List.replicate n (Value.bool false)).toArray 4)) := fun w => by
    have h := run_make_row' 22 4 (Value.bool false) 1 Try.underlying22 info_boolM rfl .i64 .i64 n (by omega) (by omega) w
    rw [madeCells_rep] at h
    exact h
  have hsz : (Try.prog.info? 4).map (·.size) = some 1 := by kernel_rfl
  have HB := Lib.hid hB
  have hBl := hB.lt
  have d0 : decide ((n : Int) < 0) = false := by simp
  have d1 : decide ((9223372036854775807 : Int) < (n : Int)) = false := by simp; omega
  have d2 : decide (9223372036854775807 < n) = false := by simp; omega
  clear hB
  go_enter Try.func67, Try.ntmps67
  go_wp2_with fail
  (with_reducible refine (HMU.out _).mono ?_)
  rintro e w1 ⟨rfl, hk1⟩
  have hk0 := hk1.size
  have HK := Lib.hid hk1
  replace HB := Lib.hid (HB.out.keeps hk1)
  clear hk1 HMU
  have hone : ∀ k : Nat, ∀ u ∈ List.replicate k (Value.bool true), u.oneCell' = true := fun k u hu => by rw [List.eq_of_mem_replicate hu]; rfl
  have hmin : (List.replicate 1 (Value.bool true)).length = Nat.min 1 n := by rw [List.length_replicate]; exact (Nat.min_eq_left (by omega)).symm
  have HSR : Hid (∀ j u, (List.replicate 1 (Value.bool true))[j]? = some u → (w1.alloc (.cells (List.replicate n (Value.bool false)).toArray 4)).cell? ((⟨B, 0, none⟩ : Addr).add j) = some u) := Lib.hid (fun j u hj => by
    match j, hj with
    | 0, hj => simp at hj; subst hj; exact (HB.out.next _).cell 0 _ rfl)
  go_wp2_with (refine wpList_copy_box rfl _ _ 22 22 rfl 4 Try.underlying22 hsz w1.heap.size 0 n n ⟨B, 0, none⟩ 1 1 rfl rfl (List.replicate n (Value.bool false)) 4 (by exact Box.new _ _ _) (List.replicate 1 (Value.bool true)) (by exact hmin) (by exact HSR.out) (by simp; omega) (hone 1) ?hmain)
  case hmain =>
    intro w2 hg hkb
    obtain ⟨G, hG⟩ : ∃ G, G = w1.heap.size := ⟨_, rfl⟩
    have hGl : w.heap.size ≤ G := by omega
    have HG : Hid (Box w2 G 4 (filled7 (Value.bool true) (Value.bool false) 1 n).toArray) := Lib.hid (by
      rw [hG]
      have h : Box w2 w1.heap.size 4 (splice (filled7 (Value.bool true) (Value.bool false) 0 n) 0 (List.replicate 1 (Value.bool true))).toArray := by
        rw [filled7_zero, show splice (List.replicate n (Value.bool false)) 0 (List.replicate 1 (Value.bool true)) = (Value.bool true) :: List.replicate (n - 1) (Value.bool false) by simp [splice]]
        exact hg
      rw [filled7_step (by omega)] at h
      exact h)
    replace HK := Lib.hid (KeepsBut.keeps (HK.out.alloc (.cells (List.replicate n (Value.bool false)).toArray 4)) hkb (by have := HK.out.size; omega))
    rw [← hG]
    clear hg hkb HSR HB hmk hG hBl hk0 hmin
    go_wp2_with fail
    go_loopw [8] (fun i wr => ∃ m : Nat, 1 ≤ m ∧ m ≤ n ∧ i = .int .i64 m ∧ Hid (Box wr G 4 (filled7 (Value.bool true) (Value.bool false) m n).toArray) ∧ Hid (Keeps w wr)) (fun i _ => n - (intOf i).toNat)
    case atStart => exact ⟨1, Nat.le_refl _, by omega, rfl, HG, HK⟩
    case round =>
      clear HG HK
      obtain ⟨m, hm1, hm2, rfl, HG, HK⟩ := hrel
      by_cases hlt : m < n
      · obtain ⟨c, hc⟩ : ∃ c, c = Nat.min m (n - m) := ⟨_, rfl⟩
        have hc0 : c ≤ m ∧ c ≤ n - m ∧ 1 ≤ c := by rw [hc]; have h1 := Nat.min_le_left m (n - m); have h2 := Nat.min_le_right m (n - m); exact ⟨h1, h2, Nat.le_min.2 ⟨hm1, by omega⟩⟩
        have HC : Hid ((List.replicate c (Value.bool true)).length = Nat.min m (n - m)) := Lib.hid (by rw [List.length_replicate]; exact hc)
        clear hc
        have hw : IntKind.i64.wrap ((m : Int) + (c : Int)) = ((m + c : Nat) : Int) := by simp [IntKind.wrap, IntKind.bits, IntKind.signed]; omega
        have HFL : Hid (m + (List.replicate c (Value.bool true)).length ≤ (filled7 (Value.bool true) (Value.bool false) m n).length) := Lib.hid (by rw [filled7_len (by omega), List.length_replicate]; omega)
        have HS := Lib.hid (filled7_src (HG.out.keeps (Keeps.refl wr).drew) hc0.1)
        go_wp2_with fail
        go_region_law (refine step_copy_splice rfl (.tmp 41) (.tmp 44) 22 22 rfl 4 Try.underlying22 hsz (some ⟨G, m, none⟩) (some ⟨G, 0, none⟩) (n - m) (n - m) m n (by simp [go_sem]; omega) (by simp [go_sem]) G m (filled7 (Value.bool true) (Value.bool false) m n) 4 (by exact HG.out.keeps (Keeps.refl _).drew) (List.replicate c (Value.bool true)) (by exact HC.out) (fun _ => ⟨rfl, _, rfl, by exact HS.out⟩) (by exact HFL.out) (hone c) G wr (by exact (Below.refl _ _).drew) (Nat.le_refl _) ?_; intro w4 hg4 hb4)
        have HG2 : Hid (Box w4 G 4 (filled7 (Value.bool true) (Value.bool false) (m + c) n).toArray) := Lib.hid (by
          have h : Box w4 G 4 (splice (filled7 (Value.bool true) (Value.bool false) m n) m (List.replicate c (Value.bool true))).toArray := hg4.out
          rw [filled7_step (by omega)] at h
          exact h)
        have HK2 : Hid (Keeps w w4) := Lib.hid (HK.out.below hb4 hGl)
        clear hg4 hb4 HG HK HS HFL HC
        simp only [Act.put, goInt, List.setIfInBounds_toArray, List.set_cons_zero, List.set_cons_succ, List.length_replicate, hw]
        go_roundw
        case rel => exact ⟨_, _, _, _, _, _, _, _, _, _, _, _, _, _, ⟨m + c, by omega, by omega, rfl, HG2, HK2⟩, rfl⟩
        case measure => simp [intOf]; omega
      · obtain rfl : m = n := by omega
        have HF : Hid (Box wr G 4 (List.replicate m (Value.bool true)).toArray) := Lib.hid (by rw [← filled7_full _ (Value.bool false)]; exact HG.out)
        go_wp2_with fail
        go_ret
        exact ⟨_, rfl, HF.out, hGl, HK.out⟩
set_option maxRecDepth 100000 in
set_option maxHeartbeats 2000000 in
theorem repI_any (B n : Nat) (w : World) (hB : Box w B 3 #[Value.int .i64 2]) (h1 : 4 ≤ n) (h2 : n ≤ 8) : Calls Try.prog 68 #[.slice (some ⟨B, 0, none⟩) 1 1, .int .i64 n] w fun e w' => ∃ G, e = .returned (.slice (some ⟨G, 0, none⟩) n n) ∧ Box w' G 3 (List.replicate n (Value.int .i64 2)).toArray ∧ w.heap.size ≤ G ∧ Keeps w w' := by
  have HMU : Hid (∀ w, Calls Try.prog 100 #[.int .u64 1, .int .u64 n] w fun e w' => e = .returned (.tuple #[.int .u64 0, .int .u64 n]) ∧ Keeps w w') := Lib.hid (fun w => by
    obtain rfl | rfl | rfl | rfl | rfl : n = 4 ∨ n = 5 ∨ n = 6 ∨ n = 7 ∨ n = 8 := by omega
    · exact mul_4 w
    · exact mul_5 w
    · exact mul_6 w
    · exact mul_7 w
    · exact mul_8 w)
  have hwu : IntKind.u64.wrap (n : Int) = n := by simp [IntKind.wrap, IntKind.bits, IntKind.signed]; omega
  have hwi : IntKind.i64.wrap (n : Int) = n := by simp [IntKind.wrap, IntKind.bits, IntKind.signed]; omega
  have hmk : ∀ w : World, (Instr.makeSlice 34 (.int .i64 n) (.int .i64 n)).run Try.prog w = .ok (.slice (some ⟨w.heap.size, 0, none⟩) n n) (w.alloc (.cells (List.replicate n (Value.int .i64 0)).toArray 3)) := fun w => by
    have h := run_make_row' 34 3 (Value.int .i64 0) 8 Try.underlying34 info_int' rfl .i64 .i64 n (by omega) (by omega) w
    rw [madeCells_rep] at h
    exact h
  have hsz : (Try.prog.info? 3).map (·.size) = some 1 := by kernel_rfl
  have HB := Lib.hid hB
  have hBl := hB.lt
  have d0 : decide ((n : Int) < 0) = false := by simp
  have d1 : decide ((9223372036854775807 : Int) < (n : Int)) = false := by simp; omega
  have d2 : decide (9223372036854775807 < n) = false := by simp; omega
  clear hB
  go_enter Try.func68, Try.ntmps68
  go_wp2_with fail
  (with_reducible refine (HMU.out _).mono ?_)
  rintro e w1 ⟨rfl, hk1⟩
  have hk0 := hk1.size
  have HK := Lib.hid hk1
  replace HB := Lib.hid (HB.out.keeps hk1)
  clear hk1 HMU
  have hone : ∀ k : Nat, ∀ u ∈ List.replicate k (Value.int .i64 2), u.oneCell' = true := fun k u hu => by rw [List.eq_of_mem_replicate hu]; rfl
  have hmin : (List.replicate 1 (Value.int .i64 2)).length = Nat.min 1 n := by rw [List.length_replicate]; exact (Nat.min_eq_left (by omega)).symm
  have HSR : Hid (∀ j u, (List.replicate 1 (Value.int .i64 2))[j]? = some u → (w1.alloc (.cells (List.replicate n (Value.int .i64 0)).toArray 3)).cell? ((⟨B, 0, none⟩ : Addr).add j) = some u) := Lib.hid (fun j u hj => by
    match j, hj with
    | 0, hj => simp at hj; subst hj; exact (HB.out.next _).cell 0 _ rfl)
  go_wp2_with (refine wpList_copy_box rfl _ _ 34 34 rfl 3 Try.underlying34 hsz w1.heap.size 0 n n ⟨B, 0, none⟩ 1 1 rfl rfl (List.replicate n (Value.int .i64 0)) 3 (by exact Box.new _ _ _) (List.replicate 1 (Value.int .i64 2)) (by exact hmin) (by exact HSR.out) (by simp; omega) (hone 1) ?hmain)
  case hmain =>
    intro w2 hg hkb
    obtain ⟨G, hG⟩ : ∃ G, G = w1.heap.size := ⟨_, rfl⟩
    have hGl : w.heap.size ≤ G := by omega
    have HG : Hid (Box w2 G 3 (filled7 (Value.int .i64 2) (Value.int .i64 0) 1 n).toArray) := Lib.hid (by
      rw [hG]
      have h : Box w2 w1.heap.size 3 (splice (filled7 (Value.int .i64 2) (Value.int .i64 0) 0 n) 0 (List.replicate 1 (Value.int .i64 2))).toArray := by
        rw [filled7_zero, show splice (List.replicate n (Value.int .i64 0)) 0 (List.replicate 1 (Value.int .i64 2)) = (Value.int .i64 2) :: List.replicate (n - 1) (Value.int .i64 0) by simp [splice]]
        exact hg
      rw [filled7_step (by omega)] at h
      exact h)
    replace HK := Lib.hid (KeepsBut.keeps (HK.out.alloc (.cells (List.replicate n (Value.int .i64 0)).toArray 3)) hkb (by have := HK.out.size; omega))
    rw [← hG]
    clear hg hkb HSR HB hmk hG hBl hk0 hmin
    go_wp2_with fail
    go_loopw [8] (fun i wr => ∃ m : Nat, 1 ≤ m ∧ m ≤ n ∧ i = .int .i64 m ∧ Hid (Box wr G 3 (filled7 (Value.int .i64 2) (Value.int .i64 0) m n).toArray) ∧ Hid (Keeps w wr)) (fun i _ => n - (intOf i).toNat)
    case atStart => exact ⟨1, Nat.le_refl _, by omega, rfl, HG, HK⟩
    case round =>
      clear HG HK
      obtain ⟨m, hm1, hm2, rfl, HG, HK⟩ := hrel
      by_cases hlt : m < n
      · obtain ⟨c, hc⟩ : ∃ c, c = Nat.min m (n - m) := ⟨_, rfl⟩
        have hc0 : c ≤ m ∧ c ≤ n - m ∧ 1 ≤ c := by rw [hc]; have h1 := Nat.min_le_left m (n - m); have h2 := Nat.min_le_right m (n - m); exact ⟨h1, h2, Nat.le_min.2 ⟨hm1, by omega⟩⟩
        have HC : Hid ((List.replicate c (Value.int .i64 2)).length = Nat.min m (n - m)) := Lib.hid (by rw [List.length_replicate]; exact hc)
        clear hc
        have hw : IntKind.i64.wrap ((m : Int) + (c : Int)) = ((m + c : Nat) : Int) := by simp [IntKind.wrap, IntKind.bits, IntKind.signed]; omega
        have HFL : Hid (m + (List.replicate c (Value.int .i64 2)).length ≤ (filled7 (Value.int .i64 2) (Value.int .i64 0) m n).length) := Lib.hid (by rw [filled7_len (by omega), List.length_replicate]; omega)
        have HS := Lib.hid (filled7_src (HG.out.keeps (Keeps.refl wr).drew) hc0.1)
        go_wp2_with fail
        go_region_law (refine step_copy_splice rfl (.tmp 41) (.tmp 44) 34 34 rfl 3 Try.underlying34 hsz (some ⟨G, m, none⟩) (some ⟨G, 0, none⟩) (n - m) (n - m) m n (by simp [go_sem]; omega) (by simp [go_sem]) G m (filled7 (Value.int .i64 2) (Value.int .i64 0) m n) 3 (by exact HG.out.keeps (Keeps.refl _).drew) (List.replicate c (Value.int .i64 2)) (by exact HC.out) (fun _ => ⟨rfl, _, rfl, by exact HS.out⟩) (by exact HFL.out) (hone c) G wr (by exact (Below.refl _ _).drew) (Nat.le_refl _) ?_; intro w4 hg4 hb4)
        have HG2 : Hid (Box w4 G 3 (filled7 (Value.int .i64 2) (Value.int .i64 0) (m + c) n).toArray) := Lib.hid (by
          have h : Box w4 G 3 (splice (filled7 (Value.int .i64 2) (Value.int .i64 0) m n) m (List.replicate c (Value.int .i64 2))).toArray := hg4.out
          rw [filled7_step (by omega)] at h
          exact h)
        have HK2 : Hid (Keeps w w4) := Lib.hid (HK.out.below hb4 hGl)
        clear hg4 hb4 HG HK HS HFL HC
        simp only [Act.put, goInt, List.setIfInBounds_toArray, List.set_cons_zero, List.set_cons_succ, List.length_replicate, hw]
        go_roundw
        case rel => exact ⟨_, _, _, _, _, _, _, _, _, _, _, _, _, _, ⟨m + c, by omega, by omega, rfl, HG2, HK2⟩, rfl⟩
        case measure => simp [intOf]; omega
      · obtain rfl : m = n := by omega
        have HF : Hid (Box wr G 3 (List.replicate m (Value.int .i64 2)).toArray) := Lib.hid (by rw [← filled7_full _ (Value.int .i64 0)]; exact HG.out)
        go_wp2_with fail
        go_ret
        exact ⟨_, rfl, HF.out, hGl, HK.out⟩
set_option maxRecDepth 100000 in
set_option maxHeartbeats 1000000 in
theorem cloneB_any (B n : Nat) (w : World) (hB : Box w B 4 (List.replicate n (.bool true)).toArray) (h1 : 4 ≤ n) (h2 : n ≤ 8) :
    Calls Try.prog 69 #[.slice (some ⟨B, 0, none⟩) n n] w fun e w' => ∃ v, e = .returned v ∧ Own w' w.heap.size 4 v (List.replicate n (.bool true)) ∧ Keeps w w' := by
  have bl := hB.lt
  have hnil : ∀ w : World, (binOp .eql 22 (.slice (some ⟨B, 0, none⟩) n n) (.slice none 0 0)).run Try.prog w = .ok (.bool false) w := fun w => by kernel_rfl
  have HSR : Hid (∀ u : World, Keeps w u → ∀ j x, (List.replicate n (Value.bool true))[j]? = some x → u.cell? ((⟨B, 0, none⟩ : Addr).add j) = some x) := Lib.hid (by
    intro u hu j x hj
    have h := (hB.keeps hu).cell j x (by simp only [List.getElem?_toArray]; exact hj)
    by_cases hj0 : j = 0
    · subst hj0; simpa [Addr.add] using h
    · simpa [Addr.add, hj0] using h)
  clear hB
  go_enter Try.func69, Try.ntmps69
  go_wp2_with (refine wpList_row_at rfl _ _ 22 rfl 4 1 (.bool false) Try.underlying22 info_boolM rfl w.heap.size _ [] rfl (by exact own_empty _ _) ⟨B, 0, none⟩ n n (List.replicate n (.bool true)) rfl (by simp) (by exact HSR.out _ ((Keeps.refl w).alloc _)) (by intro u hu; rw [List.eq_of_mem_replicate hu]; rfl) (by simp; omega) (by simp; omega) (by simp) ?hmain)
  case hmain =>
    intro v' w1 ho hg hat
    have HK : Keeps w w1 := ((Keeps.refl w).alloc (.cells #[] 4)).below ((Below.refl w.heap.size _).grown hg (by simp) fun k hk => by simp [Value.ownBlock] at hk; omega) (Nat.le_refl _)
    go_wp2_with fail
    go_ret
    exact ⟨_, rfl, by simpa using ho, HK⟩
end Go.Proofs.Ytmjodcackmjllaa
