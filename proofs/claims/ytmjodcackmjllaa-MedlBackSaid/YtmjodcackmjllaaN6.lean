/- The walks of layer 7, 10: slices.Clone of four, Plain of four. -/
import Derived.Test.YtmjodcackmjllaaN4
import Derived.Test.YtmjodcackmjllaaM7
namespace Go.Proofs.Ytmjodcackmjllaa
open Go.RowKit Go.Shelf
set_option linter.unusedVariables false
set_option linter.unusedSimpArgs false
theorem four_bool {w : World} {G : Nat} (h : Box w G 4 #[.bool true, .bool true, .bool true, .bool true]) : Bools w (.slice (some ⟨G, 0, none⟩) 4 4) (List.replicate 4 true) := by
  refine ⟨_, 4, rfl, Nat.le_refl _, by decide, rfl, fun i hi => ⟨G, 0, rfl, ?_⟩⟩
  match i, hi with
  | 0, _ => exact h.cell 0 _ rfl
  | 1, _ => exact h.cell 1 _ rfl
  | 2, _ => exact h.cell 2 _ rfl
  | 3, _ => exact h.cell 3 _ rfl
theorem four_int {w : World} {G : Nat} (h : Box w G 3 #[.int .i64 2, .int .i64 2, .int .i64 2, .int .i64 2]) : Ints w (.slice (some ⟨G, 0, none⟩) 4 4) (List.replicate 4 2) := by
  refine ⟨_, 4, rfl, Nat.le_refl _, by decide, rfl, fun i hi => ⟨G, 0, rfl, ?_⟩⟩
  match i, hi with
  | 0, _ => exact h.cell 0 _ rfl
  | 1, _ => exact h.cell 1 _ rfl
  | 2, _ => exact h.cell 2 _ rfl
  | 3, _ => exact h.cell 3 _ rfl
def p4X (G2 c5 N : Nat) (l5 : Option Addr) : RM := ⟨.slice (some ⟨G2, 0, none⟩) 4 4, .slice l5 4 c5, .slice (some ⟨N, 0, none⟩) 1 1, List.replicate 4 2, List.replicate 4 true, [true]⟩
theorem p4_in {W : World} {G1 G2 c5 N base : Nat} {l5 : Option Addr} (sl ga wi : Int) (h1 : Box W G1 4 #[.bool true, .bool true, .bool true, .bool true]) (h2 : Box W G2 3 #[.int .i64 2, .int .i64 2, .int .i64 2, .int .i64 2])
    (h3 : Own W base 4 (.slice l5 4 c5) (List.replicate 4 (.bool true))) (h4 : Box W N 4 #[.bool true]) (h5 : Box W (N + 1) 71 #[.slice (some ⟨G2, 0, none⟩) 4 4, .slice l5 4 c5, .slice (some ⟨N, 0, none⟩) 1 1]) :
    RMedl.In ⟨4, sl, ga, wi, 0, 1, .slice (some ⟨G1, 0, none⟩) 4 4, List.replicate 4 true, some ⟨N + 1, 0, none⟩, 1, 1, [p4X G2 c5 N l5]⟩ W := by
  refine ⟨four_bool h1, rfl, Nat.le_refl _, by show (1 : Nat) ≤ _; decide, fun x hx => ?_, fun i hi => ⟨N + 1, 0, rfl, ?_⟩⟩
  · simp only [List.mem_singleton] at hx
    subst hx
    exact ⟨four_int h2, own_bools h3, one_bool h4⟩
  · have : i = 0 := by simpa using hi
    subst this
    exact ⟨h5.cell 0 _ rfl, h5.cell 1 _ rfl, h5.cell 2 _ rfl⟩
/-- 'append(l, xs...)', l the call's own -/
theorem wpList_row_at {P : Program} {w : World} {ops : Array Oper} {rest : List Oper} {o : Oper} {a : Act} {Q : Exit → Act → World → Prop} (hgd : o.guard = none) (s x : Operand) (t : TypeId)
    (ho : o.op = .call { callee := .builtin .append, args := #[s, x], argTypes := #[t, t] }) (e bytes : Nat) (z : Value) (ht : P.underlying t = some (.slice e))
    (hinfo : (P.info? e).map (fun i => (i.zero, i.size, i.bytes)) = some (some z, 1, bytes)) (hz : z.cells.size = 1)
    (base : Nat) (v : Value) (xs : List Value) (hs : a.eval s = v) (hown : Own w base e v xs) (ad : Addr) (m c : Nat) (news : List Value) (hx : a.eval x = .slice (some ad) m c) (hl : news.length = m) (hc : ∀ j u, news[j]? = some u → w.cell? (ad.add j) = some u)
    (h1 : ∀ u ∈ news, u.oneCell' = true) (hlen : (xs.length + m) * bytes ≤ 140737488355328) (h63 : xs.length + m ≤ 9223372036854775807) (hbase : base ≤ w.heap.size)
    (h : ∀ v' w', Own w' base e v' (xs ++ news) → w.grownBy w' v.ownBlock → (v'.ownBlock = v.ownBlock ∨ v'.ownBlock = some w.heap.size) → wpList P ops Q rest (a.put o.dst v') w') : wpList P ops Q (o :: rest) a w := by
  obtain ⟨i, hi, hz0, hz1, hz2⟩ := info_parts hinfo
  refine wpList_append_own_at w hgd s x t ho base e i z 1 bytes ht hi hz0 hz1 hz2 hz (by decide) v xs.length xs hs hown ad m c news hx (by omega) hc h1 (by unfold maxLen; omega) hlen hbase ?_
  intro v' w' hown' hg _ hat
  refine h v' w' ?_ hg hat
  unfold Own; rw [List.length_append, hl]; exact hown'
theorem own_empty (w : World) (t : TypeId) : Own (w.alloc (.cells #[] t)) w.heap.size t (.slice (some ⟨w.heap.size, 0, none⟩) 0 0) [] :=
  ⟨rfl, .inr ⟨w.heap.size, 0, #[], rfl, Nat.le_refl _, heap_alloc_new w _, Nat.le_refl _, by decide, rfl, rfl⟩⟩
set_option maxRecDepth 100000 in
set_option maxHeartbeats 1000000 in
theorem cloneB_4 (B : Nat) (w : World) (hB : Box w B 4 #[.bool true, .bool true, .bool true, .bool true]) :
    Calls Try.prog 69 #[.slice (some ⟨B, 0, none⟩) 4 4] w fun e w' => ∃ v, e = .returned v ∧ Own w' w.heap.size 4 v (List.replicate 4 (.bool true)) ∧ Keeps w w' := by
  have b0 := hB.cell 0 _ rfl
  have b1 := hB.cell 1 _ rfl
  have b2 := hB.cell 2 _ rfl
  have b3 := hB.cell 3 _ rfl
  have bl := hB.lt
  have hnil : ∀ w : World, (binOp .eql 22 (.slice (some ⟨B, 0, none⟩) 4 4) (.slice none 0 0)).run Try.prog w = .ok (.bool false) w := fun w => by kernel_rfl
  go_enter Try.func69, Try.ntmps69
  have hsrc : ∀ u : World, Keeps w u → ∀ j x, [Value.bool true, .bool true, .bool true, .bool true][j]? = some x → u.cell? ((⟨B, 0, none⟩ : Addr).add j) = some x := by
    intro u hu j x hj
    match j, hj with
    | 0, hj => simp at hj; subst hj; exact hu.later b0
    | 1, hj => simp at hj; subst hj; exact hu.later b1
    | 2, hj => simp at hj; subst hj; exact hu.later b2
    | 3, hj => simp at hj; subst hj; exact hu.later b3
  go_wp2_with (refine wpList_row_at rfl _ _ 22 rfl 4 1 (.bool false) Try.underlying22 info_boolM rfl w.heap.size _ [] rfl (by exact own_empty _ _) ⟨B, 0, none⟩ 4 4 [.bool true, .bool true, .bool true, .bool true] rfl rfl (by exact hsrc _ ((Keeps.refl w).alloc _)) (by intro u hu; simp at hu; subst hu; rfl) (by decide) (by decide) (by simp) ?hmain)
  case hmain =>
    intro v' w1 ho hg hat
    have HK : Keeps w w1 := ((Keeps.refl w).alloc (.cells #[] 4)).below ((Below.refl w.heap.size _).grown hg (by simp) fun k hk => by simp [Value.ownBlock] at hk; omega) (Nat.le_refl _)
    go_wp2_with fail
    go_ret
    exact ⟨_, rfl, ho, HK⟩
set_option maxRecDepth 100000 in
set_option maxHeartbeats 1000000 in
theorem plain4_any (w : World) :
    Calls Try.prog 27 #[.int .i64 4, .int .i64 0] w fun e w' => ∃ m : RMedl, e = .returned (.tuple #[m.val, .int .i64 0]) ∧ PlainM 4 0 w' m ∧ Keeps w w' := by
  go_enter Try.func27, Try.ntmps27
  go_wp2_with fail
  with_reducible refine (within_any _ _ _ _).mono ?_
  rintro e w1 ⟨rfl, hk1⟩
  have e1 : withinB 4 4 8 = true := by decide
  rw [e1]
  go_wp2_with fail
  with_reducible refine (within_any _ _ _ _).mono ?_
  rintro e w2 ⟨rfl, hk2⟩
  have e2 : withinB 0 0 64 = true := by decide
  rw [e2]
  go_wp2_with fail
  with_reducible refine (repB_4 _ 0 _ (by exact Box.new _ _ _)).mono ?_
  rintro e w3 ⟨G1, rfl, hG1, hl1, hk3⟩
  have HK0 := Lib.hid hk1
  have HK := Lib.hid (((((Keeps.refl w).alloc _).trans hk1).trans hk2).alloc (.cells #[.bool true] 4) |>.trans hk3)
  have HZ := Lib.hid ((((Box.new w 25 #[.int .i64 0, .int .i64 0, .int .i64 0, .int .i64 0, .int .i64 0, .int .i64 0, .slice none 0 0, .slice none 0 0]).keeps hk1).keeps hk2).next (.cells #[.bool true] 4) |>.keeps hk3)
  have HG1 := Lib.hid hG1
  have hs1 := hk1.size
  have hs2 := hk2.size
  have hs3 := hk3.size
  simp only [World.size_alloc] at hs1 hs3 hl1
  have hlow1 : w.heap.size < G1 := by omega
  clear hG1 hk1 hk2 hk3
  go_wp2_with fail
  with_reducible refine (repI_4 _ 0 _ (by exact Box.new _ _ _)).mono ?_
  rintro e w4 ⟨G2, rfl, hG2, hl2, hk4⟩
  have hs4 := hk4.size
  simp only [World.size_alloc] at hs4 hl2
  have hlow2 : w.heap.size < G2 := by omega
  replace HG1 := Lib.hid ((HG1.out.next (.cells #[.int .i64 2] 3)).keeps hk4)
  replace HZ := Lib.hid ((HZ.out.next (.cells #[.int .i64 2] 3)).keeps hk4)
  replace HK := Lib.hid ((HK.out.alloc (.cells #[.int .i64 2] 3)).trans hk4)
  have HG2 := Lib.hid hG2
  clear hG2 hk4 HK0
  go_wp2_with fail
  with_reducible refine (cloneB_4 G1 _ (by exact HG1.out)).mono ?_
  rintro e w5 ⟨v5, rfl, ho5, hk5⟩
  have hs5 := hk5.size
  have HO := Lib.hid ho5
  replace HG1 := Lib.hid (HG1.out.keeps hk5)
  replace HG2 := Lib.hid (HG2.out.keeps hk5)
  replace HZ := Lib.hid (HZ.out.keeps hk5)
  replace HK := Lib.hid (HK.out.trans hk5)
  clear hk5 ho5
  obtain ⟨l5, c5, hv5, hc5, hm5, -⟩ := HO.out.shape
  rw [List.length_replicate] at hv5 hc5
  subst hv5
  go_wp2_with fail
  have hG1l := HG1.out.lt
  have hG2l := HG2.out.lt
  have hob0 := HO.out.lt
  have hob : (Value.slice l5 4 c5).ownBlock ≠ some (w5.heap.size + 1 + 1) := fun e => by have := (hob0 _ e).2; omega
  have hobz : (Value.slice l5 4 c5).ownBlock ≠ some w.heap.size := fun e => by have := (hob0 _ e).1; omega
  have HM := Lib.hid (Box.new ((w5.alloc (.cells #[.bool true] 4)).alloc (.cells #[.slice (some ⟨G2, 0, none⟩) 4 4, .slice l5 4 c5, .slice (some ⟨w5.heap.size, 0, none⟩) 1 1] 71)) 25 #[.int .i64 4, .int .i64 (0), .int .i64 (0), .int .i64 (0), .int .i64 0, .int .i64 1, .slice (some ⟨G1, 0, none⟩) 4 4, .slice (some ⟨w5.heap.size + 1, 0, none⟩) 1 1])
  have HX := Lib.hid ((Box.new (w5.alloc (.cells #[.bool true] 4)) 71 #[.slice (some ⟨G2, 0, none⟩) 4 4, .slice l5 4 c5, .slice (some ⟨w5.heap.size, 0, none⟩) 1 1]).next (.cells #[.int .i64 4, .int .i64 (0), .int .i64 (0), .int .i64 (0), .int .i64 0, .int .i64 1, .slice (some ⟨G1, 0, none⟩) 4 4, .slice (some ⟨w5.heap.size + 1, 0, none⟩) 1 1] 25))
  have HN := Lib.hid (((Box.new w5 4 #[.bool true]).next (.cells #[.slice (some ⟨G2, 0, none⟩) 4 4, .slice l5 4 c5, .slice (some ⟨w5.heap.size, 0, none⟩) 1 1] 71)).next (.cells #[.int .i64 4, .int .i64 (0), .int .i64 (0), .int .i64 (0), .int .i64 0, .int .i64 1, .slice (some ⟨G1, 0, none⟩) 4 4, .slice (some ⟨w5.heap.size + 1, 0, none⟩) 1 1] 25))
  rw [World.size_alloc, World.size_alloc] at HM
  rw [World.size_alloc] at HX
  replace HG1 := Lib.hid (((HG1.out.next (.cells #[.bool true] 4)).next (.cells #[.slice (some ⟨G2, 0, none⟩) 4 4, .slice l5 4 c5, .slice (some ⟨w5.heap.size, 0, none⟩) 1 1] 71)).next (.cells #[.int .i64 4, .int .i64 (0), .int .i64 (0), .int .i64 (0), .int .i64 0, .int .i64 1, .slice (some ⟨G1, 0, none⟩) 4 4, .slice (some ⟨w5.heap.size + 1, 0, none⟩) 1 1] 25))
  replace HG2 := Lib.hid (((HG2.out.next (.cells #[.bool true] 4)).next (.cells #[.slice (some ⟨G2, 0, none⟩) 4 4, .slice l5 4 c5, .slice (some ⟨w5.heap.size, 0, none⟩) 1 1] 71)).next (.cells #[.int .i64 4, .int .i64 (0), .int .i64 (0), .int .i64 (0), .int .i64 0, .int .i64 1, .slice (some ⟨G1, 0, none⟩) 4 4, .slice (some ⟨w5.heap.size + 1, 0, none⟩) 1 1] 25))
  replace HZ := Lib.hid (((HZ.out.next (.cells #[.bool true] 4)).next (.cells #[.slice (some ⟨G2, 0, none⟩) 4 4, .slice l5 4 c5, .slice (some ⟨w5.heap.size, 0, none⟩) 1 1] 71)).next (.cells #[.int .i64 4, .int .i64 (0), .int .i64 (0), .int .i64 (0), .int .i64 0, .int .i64 1, .slice (some ⟨G1, 0, none⟩) 4 4, .slice (some ⟨w5.heap.size + 1, 0, none⟩) 1 1] 25))
  replace HO := Lib.hid (HO.out.keeps ((((Keeps.refl w5).alloc (.cells #[.bool true] 4)).alloc (.cells #[.slice (some ⟨G2, 0, none⟩) 4 4, .slice l5 4 c5, .slice (some ⟨w5.heap.size, 0, none⟩) 1 1] 71)).alloc (.cells #[.int .i64 4, .int .i64 (0), .int .i64 (0), .int .i64 (0), .int .i64 0, .int .i64 1, .slice (some ⟨G1, 0, none⟩) 4 4, .slice (some ⟨w5.heap.size + 1, 0, none⟩) 1 1] 25)))
  replace HK := Lib.hid (((HK.out.alloc (.cells #[.bool true] 4)).alloc (.cells #[.slice (some ⟨G2, 0, none⟩) 4 4, .slice l5 4 c5, .slice (some ⟨w5.heap.size, 0, none⟩) 1 1] 71)).alloc (.cells #[.int .i64 4, .int .i64 (0), .int .i64 (0), .int .i64 (0), .int .i64 0, .int .i64 1, .slice (some ⟨G1, 0, none⟩) 4 4, .slice (some ⟨w5.heap.size + 1, 0, none⟩) 1 1] 25))
  have hNl : w.heap.size < w5.heap.size := by omega
  have hG1N : G1 < w5.heap.size + 3 := by have := HG1.out.lt; simp only [World.size_alloc] at this; omega
  have hA0 := mairI_le (4 : Int) [p4X G2 c5 w5.heap.size l5]
  obtain ⟨A, hA⟩ : ∃ A, A = mairI (4 : Int) [p4X G2 c5 w5.heap.size l5] := ⟨_, rfl⟩
  have HAe := Lib.hid hA
  have HL1 : Hid (∀ w', RMedl.In ⟨4, 0, 0, 0, 0, 1, .slice (some ⟨G1, 0, none⟩) 4 4, List.replicate 4 true, some ⟨w5.heap.size + 1, 0, none⟩, 1, 1, [p4X G2 c5 w5.heap.size l5]⟩ w' → Calls Try.prog 65 #[.agg #[.int .i64 4, .int .i64 (0), .int .i64 (0), .int .i64 (0), .int .i64 0, .int .i64 1, .slice (some ⟨G1, 0, none⟩) 4 4, .slice (some ⟨w5.heap.size + 1, 0, none⟩) 1 1]] w' fun e w'' => e = .returned (.tuple #[.int .i64 16, .int .i64 6, .int .i64 (2 * 0 + A)]) ∧ Keeps w' w'') := Lib.hid (fun w' hi => by
    have h := least_any _ w' hi (by dsimp only; decide) (by dsimp only; decide) (by dsimp only; decide) (by dsimp only; decide) (by dsimp only; decide) (by dsimp only; decide) (by dsimp only; decide) (by dsimp only; decide) (by dsimp only; decide) (by dsimp only; decide)
    rw [hA]; exact h)
  have HL2 : Hid (∀ w', RMedl.In ⟨4, 0, 0, 16, 0, 1, .slice (some ⟨G1, 0, none⟩) 4 4, List.replicate 4 true, some ⟨w5.heap.size + 1, 0, none⟩, 1, 1, [p4X G2 c5 w5.heap.size l5]⟩ w' → Calls Try.prog 65 #[.agg #[.int .i64 4, .int .i64 (0), .int .i64 (0), .int .i64 (16), .int .i64 0, .int .i64 1, .slice (some ⟨G1, 0, none⟩) 4 4, .slice (some ⟨w5.heap.size + 1, 0, none⟩) 1 1]] w' fun e w'' => e = .returned (.tuple #[.int .i64 16, .int .i64 38, .int .i64 (2 * 0 + A)]) ∧ Keeps w' w'') := Lib.hid (fun w' hi => by
    have h := least_any _ w' hi (by dsimp only; decide) (by dsimp only; decide) (by dsimp only; decide) (by dsimp only; decide) (by dsimp only; decide) (by dsimp only; decide) (by dsimp only; decide) (by dsimp only; decide) (by dsimp only; decide) (by dsimp only; decide)
    rw [hA]; exact h)
  have HL3 : Hid (∀ w', RMedl.In ⟨4, 0, 38, 16, 0, 1, .slice (some ⟨G1, 0, none⟩) 4 4, List.replicate 4 true, some ⟨w5.heap.size + 1, 0, none⟩, 1, 1, [p4X G2 c5 w5.heap.size l5]⟩ w' → Calls Try.prog 65 #[.agg #[.int .i64 4, .int .i64 (0), .int .i64 (38), .int .i64 (16), .int .i64 0, .int .i64 1, .slice (some ⟨G1, 0, none⟩) 4 4, .slice (some ⟨w5.heap.size + 1, 0, none⟩) 1 1]] w' fun e w'' => e = .returned (.tuple #[.int .i64 16, .int .i64 38, .int .i64 (2 * 38 + A)]) ∧ Keeps w' w'') := Lib.hid (fun w' hi => by
    have h := least_any _ w' hi (by dsimp only; decide) (by dsimp only; decide) (by dsimp only; decide) (by dsimp only; decide) (by dsimp only; decide) (by dsimp only; decide) (by dsimp only; decide) (by dsimp only; decide) (by dsimp only; decide) (by dsimp only; decide)
    rw [hA]; exact h)
  clear hA
  with_reducible refine (HL1.out _ (by exact p4_in _ _ _ HG1.out HG2.out HO.out HN.out HX.out)).mono ?_
  rintro e w6 ⟨rfl, hkk⟩
  replace HM := Lib.hid (HM.out.keeps hkk)
  replace HX := Lib.hid (HX.out.keeps hkk)
  replace HN := Lib.hid (HN.out.keeps hkk)
  replace HG1 := Lib.hid (HG1.out.keeps hkk)
  replace HG2 := Lib.hid (HG2.out.keeps hkk)
  replace HZ := Lib.hid (HZ.out.keeps hkk)
  replace HO := Lib.hid (HO.out.keeps hkk)
  replace HK := Lib.hid (HK.out.trans hkk)
  clear hkk HL1
  have m0 := HM.out.cell 0 _ rfl
  have m1 := HM.out.cell 1 _ rfl
  have m2 := HM.out.cell 2 _ rfl
  have m3 := HM.out.cell 3 _ rfl
  have m4 := HM.out.cell 4 _ rfl
  have m5 := HM.out.cell 5 _ rfl
  have m6 := HM.out.cell 6 _ rfl
  have m7 := HM.out.cell 7 _ rfl
  have mf := HM.out.frozen
  have ml := HM.out.lt
  go_wp2_with fail
  replace HX := Lib.hid (HX.out.keepsBut (KeepsBut.setCell _ (w5.heap.size + 1 + 1) 3 (.int .i64 16)) (by omega))
  replace HN := Lib.hid (HN.out.keepsBut (KeepsBut.setCell _ (w5.heap.size + 1 + 1) 3 (.int .i64 16)) (by omega))
  replace HG1 := Lib.hid (HG1.out.keepsBut (KeepsBut.setCell _ (w5.heap.size + 1 + 1) 3 (.int .i64 16)) (by omega))
  replace HG2 := Lib.hid (HG2.out.keepsBut (KeepsBut.setCell _ (w5.heap.size + 1 + 1) 3 (.int .i64 16)) (by omega))
  replace HZ := Lib.hid (HZ.out.keepsBut (KeepsBut.setCell _ (w5.heap.size + 1 + 1) 3 (.int .i64 16)) (by omega))
  replace HO := Lib.hid (HO.out.keepsBut (KeepsBut.setCell _ (w5.heap.size + 1 + 1) 3 (.int .i64 16)) hob)
  replace HM := Lib.hid (HM.out.putM 3 (.int .i64 16))
  replace HK := Lib.hid (HK.out.setCell (p := ⟨w5.heap.size + 1 + 1, 3, none⟩) (by simp; omega) (.int .i64 16))
  clear m0 m1 m2 m3 m4 m5 m6 m7 mf ml
  with_reducible refine (HL2.out _ (by exact p4_in _ _ _ HG1.out HG2.out HO.out HN.out HX.out)).mono ?_
  rintro e w7 ⟨rfl, hkk⟩
  replace HM := Lib.hid (HM.out.keeps hkk)
  replace HX := Lib.hid (HX.out.keeps hkk)
  replace HN := Lib.hid (HN.out.keeps hkk)
  replace HG1 := Lib.hid (HG1.out.keeps hkk)
  replace HG2 := Lib.hid (HG2.out.keeps hkk)
  replace HZ := Lib.hid (HZ.out.keeps hkk)
  replace HO := Lib.hid (HO.out.keeps hkk)
  replace HK := Lib.hid (HK.out.trans hkk)
  clear hkk HL2
  have m0 := HM.out.cell 0 _ rfl
  have m1 := HM.out.cell 1 _ rfl
  have m2 := HM.out.cell 2 _ rfl
  have m3 := HM.out.cell 3 _ rfl
  have m4 := HM.out.cell 4 _ rfl
  have m5 := HM.out.cell 5 _ rfl
  have m6 := HM.out.cell 6 _ rfl
  have m7 := HM.out.cell 7 _ rfl
  have mf := HM.out.frozen
  have ml := HM.out.lt
  go_wp2_with fail
  replace HX := Lib.hid (HX.out.keepsBut (KeepsBut.setCell _ (w5.heap.size + 1 + 1) 2 (.int .i64 38)) (by omega))
  replace HN := Lib.hid (HN.out.keepsBut (KeepsBut.setCell _ (w5.heap.size + 1 + 1) 2 (.int .i64 38)) (by omega))
  replace HG1 := Lib.hid (HG1.out.keepsBut (KeepsBut.setCell _ (w5.heap.size + 1 + 1) 2 (.int .i64 38)) (by omega))
  replace HG2 := Lib.hid (HG2.out.keepsBut (KeepsBut.setCell _ (w5.heap.size + 1 + 1) 2 (.int .i64 38)) (by omega))
  replace HZ := Lib.hid (HZ.out.keepsBut (KeepsBut.setCell _ (w5.heap.size + 1 + 1) 2 (.int .i64 38)) (by omega))
  replace HO := Lib.hid (HO.out.keepsBut (KeepsBut.setCell _ (w5.heap.size + 1 + 1) 2 (.int .i64 38)) hob)
  replace HM := Lib.hid (HM.out.putM 2 (.int .i64 38))
  replace HK := Lib.hid (HK.out.setCell (p := ⟨w5.heap.size + 1 + 1, 2, none⟩) (by simp; omega) (.int .i64 38))
  clear m0 m1 m2 m3 m4 m5 m6 m7 mf ml
  with_reducible refine (HL3.out _ (by exact p4_in _ _ _ HG1.out HG2.out HO.out HN.out HX.out)).mono ?_
  rintro e w8 ⟨rfl, hkk⟩
  replace HM := Lib.hid (HM.out.keeps hkk)
  replace HX := Lib.hid (HX.out.keeps hkk)
  replace HN := Lib.hid (HN.out.keeps hkk)
  replace HG1 := Lib.hid (HG1.out.keeps hkk)
  replace HG2 := Lib.hid (HG2.out.keeps hkk)
  replace HZ := Lib.hid (HZ.out.keeps hkk)
  replace HO := Lib.hid (HO.out.keeps hkk)
  replace HK := Lib.hid (HK.out.trans hkk)
  clear hkk HL3
  have m0 := HM.out.cell 0 _ rfl
  have m1 := HM.out.cell 1 _ rfl
  have m2 := HM.out.cell 2 _ rfl
  have m3 := HM.out.cell 3 _ rfl
  have m4 := HM.out.cell 4 _ rfl
  have m5 := HM.out.cell 5 _ rfl
  have m6 := HM.out.cell 6 _ rfl
  have m7 := HM.out.cell 7 _ rfl
  have mf := HM.out.frozen
  have ml := HM.out.lt
  have z0 := HZ.out.cell 0 _ rfl
  have z1 := HZ.out.cell 1 _ rfl
  have z2 := HZ.out.cell 2 _ rfl
  have z3 := HZ.out.cell 3 _ rfl
  have z4 := HZ.out.cell 4 _ rfl
  have z5 := HZ.out.cell 5 _ rfl
  have z6 := HZ.out.cell 6 _ rfl
  have z7 := HZ.out.cell 7 _ rfl
  have zf := HZ.out.frozen
  have zl := HZ.out.lt
  go_wp2_with fail
  have hA76 : (2 * 38 + A : Int) = 76 + A := by omega
  refine bodyPost_ret (v := .tuple #[.agg #[.int .i64 4, .int .i64 (76 + A), .int .i64 38, .int .i64 16, .int .i64 0, .int .i64 1, .slice (some ⟨G1, 0, none⟩) 4 4, .slice (some ⟨w5.heap.size + 1, 0, none⟩) 1 1], .int .i64 0])
    (by simp [results, Try.results27, go_sem, *]) rfl
    ⟨⟨4, 76 + A, 38, 16, 0, 1, .slice (some ⟨G1, 0, none⟩) 4 4, List.replicate 4 true, some ⟨w5.heap.size + 1, 0, none⟩, 1, 1, [p4X G2 c5 w5.heap.size l5]⟩, rfl,
      ⟨?_, rfl, rfl, rfl, by dsimp only; decide, by dsimp only; decide, by rw [HAe.out]; rfl, rfl, ⟨_, rfl, rfl, rfl, rfl⟩⟩, ?_⟩
  · refine p4_in _ _ _ (base := w4.heap.size) ?_ ?_ ?_ ?_ ?_
    · repeat (refine Box.keepsBut ?_ (KeepsBut.setCell _ _ _ _) (by omega))
      exact HG1.out
    · repeat (refine Box.keepsBut ?_ (KeepsBut.setCell _ _ _ _) (by omega))
      exact HG2.out
    · repeat (refine Own.keepsBut ?_ (KeepsBut.setCell _ _ _ _) (by first | exact hob | exact hobz))
      exact HO.out
    · repeat (refine Box.keepsBut ?_ (KeepsBut.setCell _ _ _ _) (by omega))
      exact HN.out
    · repeat (refine Box.keepsBut ?_ (KeepsBut.setCell _ _ _ _) (by omega))
      exact HX.out
  · repeat (with_reducible refine Keeps.setCell ?_ (by simp <;> omega) _)
    exact HK.out
end Go.Proofs.Ytmjodcackmjllaa
