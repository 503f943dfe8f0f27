/- The walks of layer 7, 18: Plain of any numbers. -/
import Derived.Test.YtmjodcackmjllaaH3
namespace Go.Proofs.Ytmjodcackmjllaa
open Go.RowKit Go.Shelf
set_option linter.unusedVariables false
set_option linter.unusedSimpArgs false
def pX (n G2 c5 N : Nat) (l5 : Option Addr) : RM := ⟨.slice (some ⟨G2, 0, none⟩) n n, .slice l5 n c5, .slice (some ⟨N, 0, none⟩) 1 1, List.replicate n 2, List.replicate n true, [true]⟩
theorem p_in {W : World} {n G1 G2 c5 N base : Nat} {l5 : Option Addr} (sl ga wi dr : Int) (hn : n ≤ 8) (h1 : Box W G1 4 (List.replicate n (.bool true)).toArray) (h2 : Box W G2 3 (List.replicate n (.int .i64 2)).toArray)
    (h3 : Own W base 4 (.slice l5 n c5) (List.replicate n (.bool true))) (h4 : Box W N 4 #[.bool true]) (h5 : Box W (N + 1) 71 #[.slice (some ⟨G2, 0, none⟩) n n, .slice l5 n c5, .slice (some ⟨N, 0, none⟩) 1 1]) :
    RMedl.In ⟨n, sl, ga, wi, dr, 1, .slice (some ⟨G1, 0, none⟩) n n, List.replicate n true, some ⟨N + 1, 0, none⟩, 1, 1, [pX n G2 c5 N l5]⟩ W := by
  refine ⟨box_bools h1 (by omega), rfl, Nat.le_refl _, by show (1 : Nat) ≤ _; decide, fun x hx => ?_, fun i hi => ⟨N + 1, 0, rfl, ?_⟩⟩
  · simp only [List.mem_singleton] at hx
    subst hx
    exact ⟨box_ints h2 (by omega), own_bools h3, one_bool h4⟩
  · have : i = 0 := by simpa using hi
    subst this
    exact ⟨h5.cell 0 _ rfl, h5.cell 1 _ rfl, h5.cell 2 _ rfl⟩
set_option maxRecDepth 100000 in
set_option maxHeartbeats 2000000 in
theorem plain_any (n : Nat) (dr : Int) (w : World) (h1 : 4 ≤ n) (h2 : n ≤ 8) (h3 : 0 ≤ dr) (h4 : dr ≤ 64) :
    Calls Try.prog 27 #[.int .i64 n, .int .i64 dr] w fun e w' => ∃ m : RMedl, e = .returned (.tuple #[m.val, .int .i64 0]) ∧ PlainM n dr w' m ∧ Keeps w w' := by
  go_enter Try.func27, Try.ntmps27
  go_wp2_with fail
  with_reducible refine (within_any _ _ _ _).mono ?_
  rintro e w1 ⟨rfl, hk1⟩
  have e1 : withinB n 4 8 = true := (withinB_iff _ _ _).2 (by omega)
  rw [e1]
  go_wp2_with fail
  with_reducible refine (within_any _ _ _ _).mono ?_
  rintro e w2 ⟨rfl, hk2⟩
  have e2 : withinB dr 0 64 = true := (withinB_iff _ _ _).2 (by omega)
  rw [e2]
  go_wp2_with fail
  with_reducible refine (repB_any _ n _ (by exact Box.new _ _ _) (by omega) (by omega)).mono ?_
  rintro e w3 ⟨G1, rfl, hG1, hl1, hk3⟩
  have HK0 := Lib.hid hk1
  have HK := Lib.hid (((((Keeps.refl w).alloc _).trans hk1).trans hk2).alloc (.cells #[.bool true] 4) |>.trans hk3)
  have HZ := Lib.hid ((((Box.new w 25 #[.int .i64 0, .int .i64 0, .int .i64 0, .int .i64 0, .int .i64 0, .int .i64 0, .slice none 0 0, .slice none 0 0]).keeps hk1).keeps hk2).next (.cells #[.bool true] 4) |>.keeps hk3)
  have HG1 := Lib.hid hG1
  have hs1 := hk1.size
  have hs2 := hk2.size
  have hs3 := hk3.size
  simp only [World.size_alloc] at hs1 hs3 hl1
  have hlow1 : w.heap.size < G1 := by omega
  clear hG1 hk1 hk2 hk3
  go_wp2_with fail
  with_reducible refine (repI_any _ n _ (by exact Box.new _ _ _) (by omega) (by omega)).mono ?_
  rintro e w4 ⟨G2, rfl, hG2, hl2, hk4⟩
  have hs4 := hk4.size
  simp only [World.size_alloc] at hs4 hl2
  have hlow2 : w.heap.size < G2 := by omega
  replace HG1 := Lib.hid ((HG1.out.next (.cells #[.int .i64 2] 3)).keeps hk4)
  replace HZ := Lib.hid ((HZ.out.next (.cells #[.int .i64 2] 3)).keeps hk4)
  replace HK := Lib.hid ((HK.out.alloc (.cells #[.int .i64 2] 3)).trans hk4)
  have HG2 := Lib.hid hG2
  clear hG2 hk4 HK0
  go_wp2_with fail
  with_reducible refine (cloneB_any G1 n _ (by exact HG1.out) (by omega) (by omega)).mono ?_
  rintro e w5 ⟨v5, rfl, ho5, hk5⟩
  have hs5 := hk5.size
  have HO := Lib.hid ho5
  replace HG1 := Lib.hid (HG1.out.keeps hk5)
  replace HG2 := Lib.hid (HG2.out.keeps hk5)
  replace HZ := Lib.hid (HZ.out.keeps hk5)
  replace HK := Lib.hid (HK.out.trans hk5)
  clear hk5 ho5
  obtain ⟨l5, c5, hv5, hc5, hm5, -⟩ := HO.out.shape
  rw [List.length_replicate] at hv5 hc5
  subst hv5
  go_wp2_with fail
  have hG1l := HG1.out.lt
  have hG2l := HG2.out.lt
  have hob0 := HO.out.lt
  have hob : (Value.slice l5 n c5).ownBlock ≠ some (w5.heap.size + 1 + 1) := fun e => by have := (hob0 _ e).2; omega
  have hobz : (Value.slice l5 n c5).ownBlock ≠ some w.heap.size := fun e => by have := (hob0 _ e).1; omega
  have HM := Lib.hid (Box.new ((w5.alloc (.cells #[.bool true] 4)).alloc (.cells #[.slice (some ⟨G2, 0, none⟩) n n, .slice l5 n c5, .slice (some ⟨w5.heap.size, 0, none⟩) 1 1] 71)) 25 #[.int .i64 n, .int .i64 (0), .int .i64 (0), .int .i64 (0), .int .i64 dr, .int .i64 1, .slice (some ⟨G1, 0, none⟩) n n, .slice (some ⟨w5.heap.size + 1, 0, none⟩) 1 1])
  have HX := Lib.hid ((Box.new (w5.alloc (.cells #[.bool true] 4)) 71 #[.slice (some ⟨G2, 0, none⟩) n n, .slice l5 n c5, .slice (some ⟨w5.heap.size, 0, none⟩) 1 1]).next (.cells #[.int .i64 n, .int .i64 (0), .int .i64 (0), .int .i64 (0), .int .i64 dr, .int .i64 1, .slice (some ⟨G1, 0, none⟩) n n, .slice (some ⟨w5.heap.size + 1, 0, none⟩) 1 1] 25))
  have HN := Lib.hid (((Box.new w5 4 #[.bool true]).next (.cells #[.slice (some ⟨G2, 0, none⟩) n n, .slice l5 n c5, .slice (some ⟨w5.heap.size, 0, none⟩) 1 1] 71)).next (.cells #[.int .i64 n, .int .i64 (0), .int .i64 (0), .int .i64 (0), .int .i64 dr, .int .i64 1, .slice (some ⟨G1, 0, none⟩) n n, .slice (some ⟨w5.heap.size + 1, 0, none⟩) 1 1] 25))
  rw [World.size_alloc, World.size_alloc] at HM
  rw [World.size_alloc] at HX
  replace HG1 := Lib.hid (((HG1.out.next (.cells #[.bool true] 4)).next (.cells #[.slice (some ⟨G2, 0, none⟩) n n, .slice l5 n c5, .slice (some ⟨w5.heap.size, 0, none⟩) 1 1] 71)).next (.cells #[.int .i64 n, .int .i64 (0), .int .i64 (0), .int .i64 (0), .int .i64 dr, .int .i64 1, .slice (some ⟨G1, 0, none⟩) n n, .slice (some ⟨w5.heap.size + 1, 0, none⟩) 1 1] 25))
  replace HG2 := Lib.hid (((HG2.out.next (.cells #[.bool true] 4)).next (.cells #[.slice (some ⟨G2, 0, none⟩) n n, .slice l5 n c5, .slice (some ⟨w5.heap.size, 0, none⟩) 1 1] 71)).next (.cells #[.int .i64 n, .int .i64 (0), .int .i64 (0), .int .i64 (0), .int .i64 dr, .int .i64 1, .slice (some ⟨G1, 0, none⟩) n n, .slice (some ⟨w5.heap.size + 1, 0, none⟩) 1 1] 25))
  replace HZ := Lib.hid (((HZ.out.next (.cells #[.bool true] 4)).next (.cells #[.slice (some ⟨G2, 0, none⟩) n n, .slice l5 n c5, .slice (some ⟨w5.heap.size, 0, none⟩) 1 1] 71)).next (.cells #[.int .i64 n, .int .i64 (0), .int .i64 (0), .int .i64 (0), .int .i64 dr, .int .i64 1, .slice (some ⟨G1, 0, none⟩) n n, .slice (some ⟨w5.heap.size + 1, 0, none⟩) 1 1] 25))
  replace HO := Lib.hid (HO.out.keeps ((((Keeps.refl w5).alloc (.cells #[.bool true] 4)).alloc (.cells #[.slice (some ⟨G2, 0, none⟩) n n, .slice l5 n c5, .slice (some ⟨w5.heap.size, 0, none⟩) 1 1] 71)).alloc (.cells #[.int .i64 n, .int .i64 (0), .int .i64 (0), .int .i64 (0), .int .i64 dr, .int .i64 1, .slice (some ⟨G1, 0, none⟩) n n, .slice (some ⟨w5.heap.size + 1, 0, none⟩) 1 1] 25)))
  replace HK := Lib.hid (((HK.out.alloc (.cells #[.bool true] 4)).alloc (.cells #[.slice (some ⟨G2, 0, none⟩) n n, .slice l5 n c5, .slice (some ⟨w5.heap.size, 0, none⟩) 1 1] 71)).alloc (.cells #[.int .i64 n, .int .i64 (0), .int .i64 (0), .int .i64 (0), .int .i64 dr, .int .i64 1, .slice (some ⟨G1, 0, none⟩) n n, .slice (some ⟨w5.heap.size + 1, 0, none⟩) 1 1] 25))
  have hNl : w.heap.size < w5.heap.size := by omega
  have hG1N : G1 < w5.heap.size + 3 := by have := HG1.out.lt; simp only [World.size_alloc] at this; omega
  have hnd : 0 ≤ (n : Int) * dr := Int.mul_nonneg (by omega) h3
  have hnd2 : (n : Int) * dr ≤ 8 * 64 := Int.mul_le_mul (by omega) h4 h3 (by omega)
  have hnd3 : 16 * (n : Int) * dr = 16 * ((n : Int) * dr) := Int.mul_assoc _ _ _
  have hA0 := mairI_le (n : Int) [pX n G2 c5 w5.heap.size l5]
  obtain ⟨A, hA⟩ : ∃ A, mairI (n : Int) [pX n G2 c5 w5.heap.size l5] = A := ⟨_, rfl⟩
  rw [hA] at hA0
  obtain ⟨WI, hWI⟩ : ∃ WI, 16 * (n : Int) * dr + 16 = WI := ⟨_, rfl⟩
  obtain ⟨GA, hGA⟩ : ∃ GA, 2 * WI + 2 * 1 + 4 = GA := ⟨_, rfl⟩
  have hW1 : 0 ≤ WI ∧ WI ≤ 8208 := by omega
  have hG1' : 0 ≤ GA ∧ GA ≤ 16422 := by omega
  have HAe := Lib.hid hA
  have HWI := Lib.hid hWI
  have HGA := Lib.hid hGA
  have HL1 : Hid (∀ w', RMedl.In ⟨n, 0, 0, 0, dr, 1, .slice (some ⟨G1, 0, none⟩) n n, List.replicate n true, some ⟨w5.heap.size + 1, 0, none⟩, 1, 1, [pX n G2 c5 w5.heap.size l5]⟩ w' → Calls Try.prog 65 #[.agg #[.int .i64 n, .int .i64 0, .int .i64 0, .int .i64 0, .int .i64 dr, .int .i64 1, .slice (some ⟨G1, 0, none⟩) n n, .slice (some ⟨w5.heap.size + 1, 0, none⟩) 1 1]] w' fun e w'' => e = .returned (.tuple #[.int .i64 WI, .int .i64 6, .int .i64 (2 * 0 + A)]) ∧ Keeps w' w'') := Lib.hid (fun w' hi => by
    have h : Calls Try.prog 65 #[.agg #[.int .i64 n, .int .i64 0, .int .i64 0, .int .i64 0, .int .i64 dr, .int .i64 1, .slice (some ⟨G1, 0, none⟩) n n, .slice (some ⟨w5.heap.size + 1, 0, none⟩) 1 1]] w' fun e w'' => e = .returned (.tuple #[.int .i64 (16 * (n : Int) * dr + 16), .int .i64 (2 * 0 + 2 * 1 + 4), .int .i64 (2 * 0 + mairI (n : Int) [pX n G2 c5 w5.heap.size l5])]) ∧ Keeps w' w'' :=
      least_any ⟨n, 0, 0, 0, dr, 1, .slice (some ⟨G1, 0, none⟩) n n, List.replicate n true, some ⟨w5.heap.size + 1, 0, none⟩, 1, 1, [pX n G2 c5 w5.heap.size l5]⟩ w' hi (by dsimp only; omega) (by dsimp only; omega) (by dsimp only; omega) (by dsimp only; omega) (by dsimp only; omega) (by dsimp only; omega) (by dsimp only; omega) (by dsimp only; omega) (by dsimp only; omega) (by dsimp only; omega)
    rw [hWI, hA] at h
    exact h)
  have HL2 : Hid (∀ w', RMedl.In ⟨n, 0, 0, WI, dr, 1, .slice (some ⟨G1, 0, none⟩) n n, List.replicate n true, some ⟨w5.heap.size + 1, 0, none⟩, 1, 1, [pX n G2 c5 w5.heap.size l5]⟩ w' → Calls Try.prog 65 #[.agg #[.int .i64 n, .int .i64 0, .int .i64 0, .int .i64 WI, .int .i64 dr, .int .i64 1, .slice (some ⟨G1, 0, none⟩) n n, .slice (some ⟨w5.heap.size + 1, 0, none⟩) 1 1]] w' fun e w'' => e = .returned (.tuple #[.int .i64 WI, .int .i64 GA, .int .i64 (2 * 0 + A)]) ∧ Keeps w' w'') := Lib.hid (fun w' hi => by
    have h : Calls Try.prog 65 #[.agg #[.int .i64 n, .int .i64 0, .int .i64 0, .int .i64 WI, .int .i64 dr, .int .i64 1, .slice (some ⟨G1, 0, none⟩) n n, .slice (some ⟨w5.heap.size + 1, 0, none⟩) 1 1]] w' fun e w'' => e = .returned (.tuple #[.int .i64 (16 * (n : Int) * dr + 16), .int .i64 (2 * WI + 2 * 1 + 4), .int .i64 (2 * 0 + mairI (n : Int) [pX n G2 c5 w5.heap.size l5])]) ∧ Keeps w' w'' :=
      least_any ⟨n, 0, 0, WI, dr, 1, .slice (some ⟨G1, 0, none⟩) n n, List.replicate n true, some ⟨w5.heap.size + 1, 0, none⟩, 1, 1, [pX n G2 c5 w5.heap.size l5]⟩ w' hi (by dsimp only; omega) (by dsimp only; omega) (by dsimp only; omega) (by dsimp only; omega) (by dsimp only; omega) (by dsimp only; omega) (by dsimp only; omega) (by dsimp only; omega) (by dsimp only; omega) (by dsimp only; omega)
    rw [hWI, hA, hGA] at h
    exact h)
  have HL3 : Hid (∀ w', RMedl.In ⟨n, 0, GA, WI, dr, 1, .slice (some ⟨G1, 0, none⟩) n n, List.replicate n true, some ⟨w5.heap.size + 1, 0, none⟩, 1, 1, [pX n G2 c5 w5.heap.size l5]⟩ w' → Calls Try.prog 65 #[.agg #[.int .i64 n, .int .i64 0, .int .i64 GA, .int .i64 WI, .int .i64 dr, .int .i64 1, .slice (some ⟨G1, 0, none⟩) n n, .slice (some ⟨w5.heap.size + 1, 0, none⟩) 1 1]] w' fun e w'' => e = .returned (.tuple #[.int .i64 WI, .int .i64 GA, .int .i64 (2 * GA + A)]) ∧ Keeps w' w'') := Lib.hid (fun w' hi => by
    have h : Calls Try.prog 65 #[.agg #[.int .i64 n, .int .i64 0, .int .i64 GA, .int .i64 WI, .int .i64 dr, .int .i64 1, .slice (some ⟨G1, 0, none⟩) n n, .slice (some ⟨w5.heap.size + 1, 0, none⟩) 1 1]] w' fun e w'' => e = .returned (.tuple #[.int .i64 (16 * (n : Int) * dr + 16), .int .i64 (2 * WI + 2 * 1 + 4), .int .i64 (2 * GA + mairI (n : Int) [pX n G2 c5 w5.heap.size l5])]) ∧ Keeps w' w'' :=
      least_any ⟨n, 0, GA, WI, dr, 1, .slice (some ⟨G1, 0, none⟩) n n, List.replicate n true, some ⟨w5.heap.size + 1, 0, none⟩, 1, 1, [pX n G2 c5 w5.heap.size l5]⟩ w' hi (by dsimp only; omega) (by dsimp only; omega) (by dsimp only; omega) (by dsimp only; omega) (by dsimp only; omega) (by dsimp only; omega) (by dsimp only; omega) (by dsimp only; omega) (by dsimp only; omega) (by dsimp only; omega)
    rw [hWI, hA, hGA] at h
    exact h)
  clear hA hWI hGA hnd hnd2 hnd3
  with_reducible refine (HL1.out _ (by exact p_in _ _ _ _ (by omega) HG1.out HG2.out HO.out HN.out HX.out)).mono ?_
  rintro e w6 ⟨rfl, hkk⟩
  replace HM := Lib.hid (HM.out.keeps hkk)
  replace HX := Lib.hid (HX.out.keeps hkk)
  replace HN := Lib.hid (HN.out.keeps hkk)
  replace HG1 := Lib.hid (HG1.out.keeps hkk)
  replace HG2 := Lib.hid (HG2.out.keeps hkk)
  replace HZ := Lib.hid (HZ.out.keeps hkk)
  replace HO := Lib.hid (HO.out.keeps hkk)
  replace HK := Lib.hid (HK.out.trans hkk)
  clear hkk HL1
  have m0 := HM.out.cell 0 _ rfl
  have m1 := HM.out.cell 1 _ rfl
  have m2 := HM.out.cell 2 _ rfl
  have m3 := HM.out.cell 3 _ rfl
  have m4 := HM.out.cell 4 _ rfl
  have m5 := HM.out.cell 5 _ rfl
  have m6 := HM.out.cell 6 _ rfl
  have m7 := HM.out.cell 7 _ rfl
  have mf := HM.out.frozen
  have ml := HM.out.lt
  go_wp2_with fail
  replace HX := Lib.hid (HX.out.keepsBut (KeepsBut.setCell _ (w5.heap.size + 1 + 1) 3 (.int .i64 WI)) (by omega))
  replace HN := Lib.hid (HN.out.keepsBut (KeepsBut.setCell _ (w5.heap.size + 1 + 1) 3 (.int .i64 WI)) (by omega))
  replace HG1 := Lib.hid (HG1.out.keepsBut (KeepsBut.setCell _ (w5.heap.size + 1 + 1) 3 (.int .i64 WI)) (by omega))
  replace HG2 := Lib.hid (HG2.out.keepsBut (KeepsBut.setCell _ (w5.heap.size + 1 + 1) 3 (.int .i64 WI)) (by omega))
  replace HZ := Lib.hid (HZ.out.keepsBut (KeepsBut.setCell _ (w5.heap.size + 1 + 1) 3 (.int .i64 WI)) (by omega))
  replace HO := Lib.hid (HO.out.keepsBut (KeepsBut.setCell _ (w5.heap.size + 1 + 1) 3 (.int .i64 WI)) hob)
  replace HM := Lib.hid (HM.out.putM 3 (.int .i64 WI))
  replace HK := Lib.hid (HK.out.setCell (p := ⟨w5.heap.size + 1 + 1, 3, none⟩) (by simp; omega) (.int .i64 WI))
  clear m0 m1 m2 m3 m4 m5 m6 m7 mf ml
  with_reducible refine (HL2.out _ (by exact p_in _ _ _ _ (by omega) HG1.out HG2.out HO.out HN.out HX.out)).mono ?_
  rintro e w7 ⟨rfl, hkk⟩
  replace HM := Lib.hid (HM.out.keeps hkk)
  replace HX := Lib.hid (HX.out.keeps hkk)
  replace HN := Lib.hid (HN.out.keeps hkk)
  replace HG1 := Lib.hid (HG1.out.keeps hkk)
  replace HG2 := Lib.hid (HG2.out.keeps hkk)
  replace HZ := Lib.hid (HZ.out.keeps hkk)
  replace HO := Lib.hid (HO.out.keeps hkk)
  replace HK := Lib.hid (HK.out.trans hkk)
  clear hkk HL2
  have m0 := HM.out.cell 0 _ rfl
  have m1 := HM.out.cell 1 _ rfl
  have m2 := HM.out.cell 2 _ rfl
  have m3 := HM.out.cell 3 _ rfl
  have m4 := HM.out.cell 4 _ rfl
  have m5 := HM.out.cell 5 _ rfl
  have m6 := HM.out.cell 6 _ rfl
  have m7 := HM.out.cell 7 _ rfl
  have mf := HM.out.frozen
  have ml := HM.out.lt
  go_wp2_with fail
  replace HX := Lib.hid (HX.out.keepsBut (KeepsBut.setCell _ (w5.heap.size + 1 + 1) 2 (.int .i64 GA)) (by omega))
  replace HN := Lib.hid (HN.out.keepsBut (KeepsBut.setCell _ (w5.heap.size + 1 + 1) 2 (.int .i64 GA)) (by omega))
  replace HG1 := Lib.hid (HG1.out.keepsBut (KeepsBut.setCell _ (w5.heap.size + 1 + 1) 2 (.int .i64 GA)) (by omega))
  replace HG2 := Lib.hid (HG2.out.keepsBut (KeepsBut.setCell _ (w5.heap.size + 1 + 1) 2 (.int .i64 GA)) (by omega))
  replace HZ := Lib.hid (HZ.out.keepsBut (KeepsBut.setCell _ (w5.heap.size + 1 + 1) 2 (.int .i64 GA)) (by omega))
  replace HO := Lib.hid (HO.out.keepsBut (KeepsBut.setCell _ (w5.heap.size + 1 + 1) 2 (.int .i64 GA)) hob)
  replace HM := Lib.hid (HM.out.putM 2 (.int .i64 GA))
  replace HK := Lib.hid (HK.out.setCell (p := ⟨w5.heap.size + 1 + 1, 2, none⟩) (by simp; omega) (.int .i64 GA))
  clear m0 m1 m2 m3 m4 m5 m6 m7 mf ml
  with_reducible refine (HL3.out _ (by exact p_in _ _ _ _ (by omega) HG1.out HG2.out HO.out HN.out HX.out)).mono ?_
  rintro e w8 ⟨rfl, hkk⟩
  replace HM := Lib.hid (HM.out.keeps hkk)
  replace HX := Lib.hid (HX.out.keeps hkk)
  replace HN := Lib.hid (HN.out.keeps hkk)
  replace HG1 := Lib.hid (HG1.out.keeps hkk)
  replace HG2 := Lib.hid (HG2.out.keeps hkk)
  replace HZ := Lib.hid (HZ.out.keeps hkk)
  replace HO := Lib.hid (HO.out.keeps hkk)
  replace HK := Lib.hid (HK.out.trans hkk)
  clear hkk HL3
  have m0 := HM.out.cell 0 _ rfl
  have m1 := HM.out.cell 1 _ rfl
  have m2 := HM.out.cell 2 _ rfl
  have m3 := HM.out.cell 3 _ rfl
  have m4 := HM.out.cell 4 _ rfl
  have m5 := HM.out.cell 5 _ rfl
  have m6 := HM.out.cell 6 _ rfl
  have m7 := HM.out.cell 7 _ rfl
  have mf := HM.out.frozen
  have ml := HM.out.lt
  have z0 := HZ.out.cell 0 _ rfl
  have z1 := HZ.out.cell 1 _ rfl
  have z2 := HZ.out.cell 2 _ rfl
  have z3 := HZ.out.cell 3 _ rfl
  have z4 := HZ.out.cell 4 _ rfl
  have z5 := HZ.out.cell 5 _ rfl
  have z6 := HZ.out.cell 6 _ rfl
  have z7 := HZ.out.cell 7 _ rfl
  have zf := HZ.out.frozen
  have zl := HZ.out.lt
  go_wp2_with fail
  refine bodyPost_ret (v := .tuple #[.agg #[.int .i64 n, .int .i64 (2 * GA + A), .int .i64 GA, .int .i64 WI, .int .i64 dr, .int .i64 1, .slice (some ⟨G1, 0, none⟩) n n, .slice (some ⟨w5.heap.size + 1, 0, none⟩) 1 1], .int .i64 0])
    (by simp [results, Try.results27, go_sem, *]) rfl
    ⟨⟨n, 2 * GA + A, GA, WI, dr, 1, .slice (some ⟨G1, 0, none⟩) n n, List.replicate n true, some ⟨w5.heap.size + 1, 0, none⟩, 1, 1, [pX n G2 c5 w5.heap.size l5]⟩, rfl,
      ⟨?_, rfl, rfl, rfl, HWI.out.symm, HGA.out.symm, by rw [← HAe.out]; rfl, rfl, ⟨_, rfl, rfl, rfl, rfl⟩⟩, ?_⟩
  · refine p_in _ _ _ _ (by omega) (base := w4.heap.size) ?_ ?_ ?_ ?_ ?_
    · repeat (refine Box.keepsBut ?_ (KeepsBut.setCell _ _ _ _) (by omega))
      exact HG1.out
    · repeat (refine Box.keepsBut ?_ (KeepsBut.setCell _ _ _ _) (by omega))
      exact HG2.out
    · repeat (refine Own.keepsBut ?_ (KeepsBut.setCell _ _ _ _) (by first | exact hob | exact hobz))
      exact HO.out
    · repeat (refine Box.keepsBut ?_ (KeepsBut.setCell _ _ _ _) (by omega))
      exact HN.out
    · repeat (refine Box.keepsBut ?_ (KeepsBut.setCell _ _ _ _) (by omega))
      exact HX.out
  · repeat (with_reducible refine Keeps.setCell ?_ (by simp <;> omega) _)
    exact HK.out
/-- no list -/
def RMedl.zero : RMedl := ⟨0, 0, 0, 0, 0, 0, .slice none 0 0, [], none, 0, 0, []⟩
theorem RMedl.zero_in (w : World) : RMedl.zero.In w := ⟨⟨none, 0, rfl, Nat.le_refl _, by decide, RowV.nil _ _⟩, ⟨rfl, Nat.le_refl _, by show (0 : Nat) ≤ _; decide, fun x hx => (by cases hx), fun i hi => absurd hi (Nat.not_lt_zero _)⟩⟩
set_option maxRecDepth 100000 in
set_option maxHeartbeats 1000000 in
theorem plain_bad1 (n dr : Int) (w : World) (h1 : ¬ (4 ≤ n ∧ n ≤ 8)) : Calls Try.prog 27 #[.int .i64 n, .int .i64 dr] w fun e w' => e = .returned (.tuple #[RMedl.zero.val, .int .i64 2]) ∧ Keeps w w' := by
  show Calls Try.prog 27 #[.int .i64 n, .int .i64 dr] w fun e w' => e = .returned (.tuple #[.agg #[.int .i64 0, .int .i64 0, .int .i64 0, .int .i64 0, .int .i64 0, .int .i64 0, .slice none 0 0, .slice none 0 0], .int .i64 2]) ∧ Keeps w w'
  have HZ := Lib.hid (Box.new w 25 #[.int .i64 0, .int .i64 0, .int .i64 0, .int .i64 0, .int .i64 0, .int .i64 0, .slice none 0 0, .slice none 0 0])
  have HK := Lib.hid ((Keeps.refl w).alloc (.cells #[.int .i64 0, .int .i64 0, .int .i64 0, .int .i64 0, .int .i64 0, .int .i64 0, .slice none 0 0, .slice none 0 0] 25))
  go_enter Try.func27, Try.ntmps27
  go_wp2_with fail
  (with_reducible refine (within_any _ _ _ _).mono ?_)
  rintro e w1 ⟨rfl, hk1⟩
  have e1 : withinB n 4 8 = false := Bool.eq_false_iff.2 (fun h => absurd ((withinB_iff _ _ _).1 h) (by omega))
  rw [e1]
  replace HZ := Lib.hid (HZ.out.keeps hk1)
  replace HK := Lib.hid (HK.out.trans hk1)
  clear hk1
  have z0 := HZ.out.cell 0 _ rfl
  have z1 := HZ.out.cell 1 _ rfl
  have z2 := HZ.out.cell 2 _ rfl
  have z3 := HZ.out.cell 3 _ rfl
  have z4 := HZ.out.cell 4 _ rfl
  have z5 := HZ.out.cell 5 _ rfl
  have z6 := HZ.out.cell 6 _ rfl
  have z7 := HZ.out.cell 7 _ rfl
  have zf := HZ.out.frozen
  have zl := HZ.out.lt
  go_wp2_with fail
  refine bodyPost_ret (v := .tuple #[.agg #[.int .i64 0, .int .i64 0, .int .i64 0, .int .i64 0, .int .i64 0, .int .i64 0, .slice none 0 0, .slice none 0 0], .int .i64 2]) (by simp [results, Try.results27, go_sem, *]) rfl ⟨rfl, ?_⟩
  repeat (with_reducible refine Keeps.setCell ?_ (by simp <;> omega) _)
  exact HK.out
set_option maxRecDepth 100000 in
set_option maxHeartbeats 1000000 in
theorem plain_bad2 (n dr : Int) (w : World) (h1 : 4 ≤ n ∧ n ≤ 8) (h2 : ¬ (0 ≤ dr ∧ dr ≤ 64)) : Calls Try.prog 27 #[.int .i64 n, .int .i64 dr] w fun e w' => e = .returned (.tuple #[RMedl.zero.val, .int .i64 2]) ∧ Keeps w w' := by
  show Calls Try.prog 27 #[.int .i64 n, .int .i64 dr] w fun e w' => e = .returned (.tuple #[.agg #[.int .i64 0, .int .i64 0, .int .i64 0, .int .i64 0, .int .i64 0, .int .i64 0, .slice none 0 0, .slice none 0 0], .int .i64 2]) ∧ Keeps w w'
  have HZ := Lib.hid (Box.new w 25 #[.int .i64 0, .int .i64 0, .int .i64 0, .int .i64 0, .int .i64 0, .int .i64 0, .slice none 0 0, .slice none 0 0])
  have HK := Lib.hid ((Keeps.refl w).alloc (.cells #[.int .i64 0, .int .i64 0, .int .i64 0, .int .i64 0, .int .i64 0, .int .i64 0, .slice none 0 0, .slice none 0 0] 25))
  go_enter Try.func27, Try.ntmps27
  go_wp2_with fail
  (with_reducible refine (within_any _ _ _ _).mono ?_)
  rintro e w1 ⟨rfl, hk1⟩
  have e1 : withinB n 4 8 = true := (withinB_iff _ _ _).2 (by omega)
  rw [e1]
  replace HZ := Lib.hid (HZ.out.keeps hk1)
  replace HK := Lib.hid (HK.out.trans hk1)
  clear hk1
  go_wp2_with fail
  (with_reducible refine (within_any _ _ _ _).mono ?_)
  rintro e w2 ⟨rfl, hk2⟩
  have e2 : withinB dr 0 64 = false := Bool.eq_false_iff.2 (fun h => absurd ((withinB_iff _ _ _).1 h) (by omega))
  rw [e2]
  replace HZ := Lib.hid (HZ.out.keeps hk2)
  replace HK := Lib.hid (HK.out.trans hk2)
  clear hk2
  have z0 := HZ.out.cell 0 _ rfl
  have z1 := HZ.out.cell 1 _ rfl
  have z2 := HZ.out.cell 2 _ rfl
  have z3 := HZ.out.cell 3 _ rfl
  have z4 := HZ.out.cell 4 _ rfl
  have z5 := HZ.out.cell 5 _ rfl
  have z6 := HZ.out.cell 6 _ rfl
  have z7 := HZ.out.cell 7 _ rfl
  have zf := HZ.out.frozen
  have zl := HZ.out.lt
  go_wp2_with fail
  refine bodyPost_ret (v := .tuple #[.agg #[.int .i64 0, .int .i64 0, .int .i64 0, .int .i64 0, .int .i64 0, .int .i64 0, .slice none 0 0, .slice none 0 0], .int .i64 2]) (by simp [results, Try.results27, go_sem, *]) rfl ⟨rfl, ?_⟩
  repeat (with_reducible refine Keeps.setCell ?_ (by simp <;> omega) _)
  exact HK.out
set_option maxRecDepth 100000 in
set_option maxHeartbeats 1000000 in
theorem rplain_bad1 (n dr : Int) (w : World) (h1 : ¬ (4 ≤ n ∧ n ≤ 8)) : Calls Try.prog 28 #[.int .i64 n, .int .i64 dr] w fun e w' => e = .returned (.tuple #[RMedl.zero.val, .int .i64 2]) ∧ Keeps w w' := by
  show Calls Try.prog 28 #[.int .i64 n, .int .i64 dr] w fun e w' => e = .returned (.tuple #[.agg #[.int .i64 0, .int .i64 0, .int .i64 0, .int .i64 0, .int .i64 0, .int .i64 0, .slice none 0 0, .slice none 0 0], .int .i64 2]) ∧ Keeps w w'
  have HZ := Lib.hid (Box.new w 25 #[.int .i64 0, .int .i64 0, .int .i64 0, .int .i64 0, .int .i64 0, .int .i64 0, .slice none 0 0, .slice none 0 0])
  have HK := Lib.hid ((Keeps.refl w).alloc (.cells #[.int .i64 0, .int .i64 0, .int .i64 0, .int .i64 0, .int .i64 0, .int .i64 0, .slice none 0 0, .slice none 0 0] 25))
  by_cases q : n < 4
  · have a1 : decide (n < 4) = true := by simpa using q
    go_enter Try.func28, Try.ntmps28
    go_wp2_with fail
    refine bodyPost_ret (v := .tuple #[.agg #[.int .i64 0, .int .i64 0, .int .i64 0, .int .i64 0, .int .i64 0, .int .i64 0, .slice none 0 0, .slice none 0 0], .int .i64 2]) (by simp [results, Try.results28, go_sem, *]) rfl ⟨rfl, ?_⟩
    repeat (with_reducible refine Keeps.setCell ?_ (by simp <;> omega) _)
    exact HK.out
  · have a1 : decide (n < 4) = false := by simpa using q
    have a2 : decide (8 < n) = true := by simp; omega
    go_enter Try.func28, Try.ntmps28
    go_wp2_with fail
    refine bodyPost_ret (v := .tuple #[.agg #[.int .i64 0, .int .i64 0, .int .i64 0, .int .i64 0, .int .i64 0, .int .i64 0, .slice none 0 0, .slice none 0 0], .int .i64 2]) (by simp [results, Try.results28, go_sem, *]) rfl ⟨rfl, ?_⟩
    repeat (with_reducible refine Keeps.setCell ?_ (by simp <;> omega) _)
    exact HK.out
set_option maxRecDepth 100000 in
set_option maxHeartbeats 1000000 in
theorem rplain_bad2 (n dr : Int) (w : World) (h1 : 4 ≤ n ∧ n ≤ 8) (h2 : ¬ (0 ≤ dr ∧ dr ≤ 64)) : Calls Try.prog 28 #[.int .i64 n, .int .i64 dr] w fun e w' => e = .returned (.tuple #[RMedl.zero.val, .int .i64 2]) ∧ Keeps w w' := by
  show Calls Try.prog 28 #[.int .i64 n, .int .i64 dr] w fun e w' => e = .returned (.tuple #[.agg #[.int .i64 0, .int .i64 0, .int .i64 0, .int .i64 0, .int .i64 0, .int .i64 0, .slice none 0 0, .slice none 0 0], .int .i64 2]) ∧ Keeps w w'
  have HZ := Lib.hid (Box.new w 25 #[.int .i64 0, .int .i64 0, .int .i64 0, .int .i64 0, .int .i64 0, .int .i64 0, .slice none 0 0, .slice none 0 0])
  have HK := Lib.hid ((Keeps.refl w).alloc (.cells #[.int .i64 0, .int .i64 0, .int .i64 0, .int .i64 0, .int .i64 0, .int .i64 0, .slice none 0 0, .slice none 0 0] 25))
  have a1 : decide (n < 4) = false := by simp; omega
  have a2 : decide (8 < n) = false := by simp; omega
  by_cases q : dr < 0
  · have a3 : decide (dr < 0) = true := by simpa using q
    go_enter Try.func28, Try.ntmps28
    go_wp2_with fail
    refine bodyPost_ret (v := .tuple #[.agg #[.int .i64 0, .int .i64 0, .int .i64 0, .int .i64 0, .int .i64 0, .int .i64 0, .slice none 0 0, .slice none 0 0], .int .i64 2]) (by simp [results, Try.results28, go_sem, *]) rfl ⟨rfl, ?_⟩
    repeat (with_reducible refine Keeps.setCell ?_ (by simp <;> omega) _)
    exact HK.out
  · have a3 : decide (dr < 0) = false := by simpa using q
    have a4 : decide (64 < dr) = true := by simp; omega
    go_enter Try.func28, Try.ntmps28
    go_wp2_with fail
    refine bodyPost_ret (v := .tuple #[.agg #[.int .i64 0, .int .i64 0, .int .i64 0, .int .i64 0, .int .i64 0, .int .i64 0, .slice none 0 0, .slice none 0 0], .int .i64 2]) (by simp [results, Try.results28, go_sem, *]) rfl ⟨rfl, ?_⟩
    repeat (with_reducible refine Keeps.setCell ?_ (by simp <;> omega) _)
    exact HK.out
end Go.Proofs.Ytmjodcackmjllaa
