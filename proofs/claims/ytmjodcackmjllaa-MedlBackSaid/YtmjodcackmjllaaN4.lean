/- The walks of layer 7, 8: slices.Repeat and slices.Clone of four. -/
import Derived.Test.YtmjodcackmjllaaM12
import Derived.Shelf.Abstract
import Derived.Deep.RegionLaw
namespace Go.Proofs.Ytmjodcackmjllaa
open Go.RowKit Go.Shelf
set_option linter.unusedVariables false
set_option linter.unusedSimpArgs false
theorem madeCells_rep (z : Value) (n : Nat) : madeCells #[z] n = (List.replicate n z).toArray := by
  unfold madeCells
  apply Array.ext
  · simp
  · intro i h1 h2
    simp [Nat.mod_one]
theorem wpList_copy_box {P : Program} {w : World} {ops : Array Oper} {rest : List Oper} {o : Oper} {a : Act} {Q : Exit → Act → World → Prop} (hgd : o.guard = none) (d s : Operand) (dT sT : TypeId)
    (ho : o.op = .call { callee := .builtin .copy, args := #[d, s], argTypes := #[dT, sT] }) (elem : TypeId) (hu : P.underlying dT = some (.slice elem)) (hsz : (P.info? elem).map (·.size) = some 1)
    (g off dLen dCap : Nat) (ad : Addr) (sLen sCap : Nat) (hd : a.eval d = .slice (some ⟨g, off, none⟩) dLen dCap) (hs : a.eval s = .slice (some ad) sLen sCap)
    (cur : List Value) (t : TypeId) (hg : Box w g t cur.toArray) (cs : List Value) (hn : cs.length = Nat.min sLen dLen)
    (hsrc : ∀ j v, cs[j]? = some v → w.cell? (ad.add j) = some v) (hfit : off + cs.length ≤ cur.length) (h1 : ∀ v ∈ cs, v.oneCell' = true)
    (h : ∀ w', Box w' g t (cur.take off ++ (cs ++ cur.drop (off + cs.length))).toArray → KeepsBut g w w' → wpList P ops Q rest (a.put o.dst (goInt cs.length)) w') : wpList P ops Q (o :: rest) a w := by
  refine wpList_copy_own hgd d s dT sT ho elem hu hsz g off dLen dCap ad sLen sCap hd hs cur.toArray t hg cs hn hsrc (by simpa using hfit) h1 ?_
  exact h _ (by unfold Box; rw [setRow_heap w g _ _ t _ hg]) ⟨rfl, rfl, rfl, by simp [World.setRow], fun i _ hi => setRow_other w g i _ hi⟩
set_option maxRecDepth 100000 in
theorem mul64_4 (w : World) : Calls Try.prog 106 #[.int .u64 1, .int .u64 4] w fun e w' => e = .returned (.tuple #[.int .u64 0, .int .u64 4]) ∧ Keeps w w' := by
  have hA : bits .and .u64 1 4294967295 = 1 := by decide +kernel
  have hB : bits .and .u64 4 4294967295 = 4 := by decide +kernel
  have hC : bits .and .u64 0 4294967295 = 0 := by decide +kernel
  have hw0 : IntKind.u64.wrap 0 = 0 := by decide +kernel
  have hw4 : IntKind.u64.wrap 4 = 4 := by decide +kernel
  go_enter Try.func106, Try.ntmps106
  go_wp2_with fail
  go_ret2
  exact ⟨rfl, Keeps.refl _⟩
set_option maxRecDepth 100000 in
theorem mul_4 (w : World) : Calls Try.prog 100 #[.int .u64 1, .int .u64 4] w fun e w' => e = .returned (.tuple #[.int .u64 0, .int .u64 4]) ∧ Keeps w w' := by
  go_enter Try.func100, Try.ntmps100
  go_wp2_with fail
  with_reducible refine (mul64_4 _).mono ?_
  rintro e w1 ⟨rfl, hk1⟩
  go_wp2_with fail
  go_ret2
  exact ⟨rfl, hk1⟩
set_option maxRecDepth 100000 in
set_option maxHeartbeats 1000000 in
theorem repB_4 (B cap : Nat) (w : World) (hB : Box w B 4 #[.bool true]) : Calls Try.prog 67 #[.slice (some ⟨B, 0, none⟩) 1 1, .int .i64 4] w fun e w' => ∃ G, e = .returned (.slice (some ⟨G, 0, none⟩) 4 4) ∧ Box w' G 4 #[.bool true, .bool true, .bool true, .bool true] ∧ w.heap.size ≤ G ∧ Keeps w w' := by
  have b0 := hB.cell 0 _ rfl
  have bl := hB.lt
  have hmk : ∀ w : World, (Instr.makeSlice 22 (.int .i64 4) (.int .i64 4)).run Try.prog w = .ok (.slice (some ⟨w.heap.size, 0, none⟩) 4 4) (w.alloc (.cells #[.bool false, .bool false, .bool false, .bool false] 4)) := fun w => by
    have h := run_make_row' 22 4 (.bool false) 1 Try.underlying22 info_boolM rfl .i64 .i64 4 (by decide) (by decide) w
    rw [madeCells_rep] at h
    exact h
  have hsz : (Try.prog.info? 4).map (·.size) = some 1 := by kernel_rfl
  go_enter Try.func67, Try.ntmps67
  go_wp2_with fail
  with_reducible refine (mul_4 _).mono ?_
  rintro e w1 ⟨rfl, hk1⟩
  have HB := Lib.hid (hB.keeps hk1)
  have hk0 := hk1.size
  have HK := Lib.hid hk1
  clear hk1 b0 bl hB
  have b0 := HB.out.cell 0 _ rfl
  have bl := HB.out.lt
  have hcp : ∀ cs : List Value, (cs = [.bool true] ∨ cs = [.bool true, .bool true]) → ∀ v ∈ cs, v.oneCell' = true := by
    intro cs h v hv
    rcases h with rfl | rfl <;> simp at hv <;> subst hv <;> rfl
  go_wp2_with (refine wpList_copy_box rfl _ _ 22 22 rfl 4 Try.underlying22 hsz _ 0 4 4 ⟨B, 0, none⟩ 1 1 rfl rfl [.bool false, .bool false, .bool false, .bool false] 4 (by exact Box.new _ _ _) [.bool true] rfl ?hsrc (by decide) (hcp _ (.inl rfl)) ?hmain)
  case hsrc =>
    intro j u hj
    match j, hj with
    | 0, hj =>
      simp at hj
      subst hj
      exact (HB.out.next _).cell 0 _ rfl
  case hmain =>
    intro w2 hg hkb
    have HG := Lib.hid hg
    replace HK := Lib.hid (KeepsBut.keeps (HK.out.alloc (.cells #[.bool false, .bool false, .bool false, .bool false] 4)) hkb (by have := HK.out.size; omega))
    have hGl : w.heap.size ≤ w1.heap.size := by have := hk0; omega
    clear hg hkb b0 bl HB hmk
    go_wp2_with fail
    have hGB : w1.heap.size < w2.heap.size := HG.out.lt
    have hwr2 : IntKind.i64.wrap 2 = 2 := by decide +kernel
    have hwr4 : IntKind.i64.wrap 4 = 4 := by decide +kernel
    have hsrc1 : ∀ u : World, Box u w1.heap.size 4 #[.bool true, .bool false, .bool false, .bool false] → ∀ j x, [.bool true][j]? = some x → u.cell? ((⟨w1.heap.size, 0, none⟩ : Addr).add j) = some x := by
      intro u hu j x hj
      match j, hj with
      | 0, hj => simp at hj; subst hj; exact hu.cell 0 _ rfl
    have hsrc2 : ∀ u : World, Box u w1.heap.size 4 #[.bool true, .bool true, .bool false, .bool false] → ∀ j x, [.bool true, .bool true][j]? = some x → u.cell? ((⟨w1.heap.size, 0, none⟩ : Addr).add j) = some x := by
      intro u hu j x hj
      match j, hj with
      | 0, hj => simp at hj; subst hj; exact hu.cell 0 _ rfl
      | 1, hj => simp at hj; subst hj; exact hu.cell 1 _ rfl
    go_loopw [8] (fun i wr => ∃ n : Nat, (n = 1 ∧ Hid (Box wr w1.heap.size 4 #[.bool true, .bool false, .bool false, .bool false]) ∨ n = 2 ∧ Hid (Box wr w1.heap.size 4 #[.bool true, .bool true, .bool false, .bool false]) ∨ n = 4 ∧ Hid (Box wr w1.heap.size 4 #[.bool true, .bool true, .bool true, .bool true])) ∧ i = .int .i64 n ∧ Hid (Keeps w wr)) (fun i _ => 4 - (intOf i).toNat)
    case atStart => exact ⟨1, .inl ⟨rfl, HG⟩, rfl, HK⟩
    case round =>
      clear HG HK hGB
      obtain ⟨n, hn, rfl, HK⟩ := hrel
      rcases hn with ⟨rfl, HG⟩ | ⟨rfl, HG⟩ | ⟨rfl, HG⟩
      · go_wp2_with fail
        go_region_law (refine step_copy_splice rfl (.tmp 41) (.tmp 44) 22 22 rfl 4 Try.underlying22 hsz (some ⟨w1.heap.size, 1, none⟩) (some ⟨w1.heap.size, 0, none⟩) 3 3 1 4 (by simp [go_sem]) (by simp [go_sem]) w1.heap.size 1 [.bool true, .bool false, .bool false, .bool false] 4 (by exact HG.out.keeps (Keeps.refl _).drew) [.bool true] rfl (fun _ => ⟨rfl, _, rfl, hsrc1 _ (by exact HG.out.keeps (Keeps.refl _).drew)⟩) (by simp) (hcp _ (.inl rfl)) w1.heap.size wr (by exact (Below.refl _ _).drew) (Nat.le_refl _) ?_; intro w4 hg4 hb4)
        have hG2 : Hid (Box w4 w1.heap.size 4 #[.bool true, .bool true, .bool false, .bool false]) := Lib.hid hg4.out
        clear hg4
        simp only [Act.put, goInt, List.setIfInBounds_toArray, List.set_cons_zero, List.set_cons_succ, hwr2, hwr4]
        go_roundw
        case rel => exact ⟨_, _, _, _, _, _, _, _, _, _, _, _, _, _, ⟨2, .inr (.inl ⟨rfl, hG2⟩), rfl, HK.out.below hb4 hGl⟩, rfl⟩
        case measure => simp [intOf]
      · go_wp2_with fail
        go_region_law (refine step_copy_splice rfl (.tmp 41) (.tmp 44) 22 22 rfl 4 Try.underlying22 hsz (some ⟨w1.heap.size, 2, none⟩) (some ⟨w1.heap.size, 0, none⟩) 2 2 2 4 (by simp [go_sem]) (by simp [go_sem]) w1.heap.size 2 [.bool true, .bool true, .bool false, .bool false] 4 (by exact HG.out.keeps (Keeps.refl _).drew) [.bool true, .bool true] rfl (fun _ => ⟨rfl, _, rfl, hsrc2 _ (by exact HG.out.keeps (Keeps.refl _).drew)⟩) (by simp) (hcp _ (.inr rfl)) w1.heap.size wr (by exact (Below.refl _ _).drew) (Nat.le_refl _) ?_; intro w4 hg4 hb4)
        have hG2 : Hid (Box w4 w1.heap.size 4 #[.bool true, .bool true, .bool true, .bool true]) := Lib.hid hg4.out
        clear hg4
        simp only [Act.put, goInt, List.setIfInBounds_toArray, List.set_cons_zero, List.set_cons_succ, hwr2, hwr4]
        go_roundw
        case rel => exact ⟨_, _, _, _, _, _, _, _, _, _, _, _, _, _, ⟨4, .inr (.inr ⟨rfl, hG2⟩), rfl, HK.out.below hb4 hGl⟩, rfl⟩
        case measure => simp [intOf]
      · go_wp2_with fail
        go_ret
        exact ⟨_, rfl, HG.out, hGl, HK.out⟩
set_option maxRecDepth 100000 in
set_option maxHeartbeats 1000000 in
theorem repI_4 (B cap : Nat) (w : World) (hB : Box w B 3 #[.int .i64 2]) : Calls Try.prog 68 #[.slice (some ⟨B, 0, none⟩) 1 1, .int .i64 4] w fun e w' => ∃ G, e = .returned (.slice (some ⟨G, 0, none⟩) 4 4) ∧ Box w' G 3 #[.int .i64 2, .int .i64 2, .int .i64 2, .int .i64 2] ∧ w.heap.size ≤ G ∧ Keeps w w' := by
  have b0 := hB.cell 0 _ rfl
  have bl := hB.lt
  have hmk : ∀ w : World, (Instr.makeSlice 34 (.int .i64 4) (.int .i64 4)).run Try.prog w = .ok (.slice (some ⟨w.heap.size, 0, none⟩) 4 4) (w.alloc (.cells #[.int .i64 0, .int .i64 0, .int .i64 0, .int .i64 0] 3)) := fun w => by
    have h := run_make_row' 34 3 (.int .i64 0) 8 Try.underlying34 info_int' rfl .i64 .i64 4 (by decide) (by decide) w
    rw [madeCells_rep] at h
    exact h
  have hsz : (Try.prog.info? 3).map (·.size) = some 1 := by kernel_rfl
  go_enter Try.func68, Try.ntmps68
  go_wp2_with fail
  with_reducible refine (mul_4 _).mono ?_
  rintro e w1 ⟨rfl, hk1⟩
  have HB := Lib.hid (hB.keeps hk1)
  have hk0 := hk1.size
  have HK := Lib.hid hk1
  clear hk1 b0 bl hB
  have b0 := HB.out.cell 0 _ rfl
  have bl := HB.out.lt
  have hcp : ∀ cs : List Value, (cs = [.int .i64 2] ∨ cs = [.int .i64 2, .int .i64 2]) → ∀ v ∈ cs, v.oneCell' = true := by
    intro cs h v hv
    rcases h with rfl | rfl <;> simp at hv <;> subst hv <;> rfl
  go_wp2_with (refine wpList_copy_box rfl _ _ 34 34 rfl 3 Try.underlying34 hsz _ 0 4 4 ⟨B, 0, none⟩ 1 1 rfl rfl [.int .i64 0, .int .i64 0, .int .i64 0, .int .i64 0] 3 (by exact Box.new _ _ _) [.int .i64 2] rfl ?hsrc (by decide) (hcp _ (.inl rfl)) ?hmain)
  case hsrc =>
    intro j u hj
    match j, hj with
    | 0, hj =>
      simp at hj
      subst hj
      exact (HB.out.next _).cell 0 _ rfl
  case hmain =>
    intro w2 hg hkb
    have HG := Lib.hid hg
    replace HK := Lib.hid (KeepsBut.keeps (HK.out.alloc (.cells #[.int .i64 0, .int .i64 0, .int .i64 0, .int .i64 0] 3)) hkb (by have := HK.out.size; omega))
    have hGl : w.heap.size ≤ w1.heap.size := by have := hk0; omega
    clear hg hkb b0 bl HB hmk
    go_wp2_with fail
    have hGB : w1.heap.size < w2.heap.size := HG.out.lt
    have hwr2 : IntKind.i64.wrap 2 = 2 := by decide +kernel
    have hwr4 : IntKind.i64.wrap 4 = 4 := by decide +kernel
    have hsrc1 : ∀ u : World, Box u w1.heap.size 3 #[.int .i64 2, .int .i64 0, .int .i64 0, .int .i64 0] → ∀ j x, [.int .i64 2][j]? = some x → u.cell? ((⟨w1.heap.size, 0, none⟩ : Addr).add j) = some x := by
      intro u hu j x hj
      match j, hj with
      | 0, hj => simp at hj; subst hj; exact hu.cell 0 _ rfl
    have hsrc2 : ∀ u : World, Box u w1.heap.size 3 #[.int .i64 2, .int .i64 2, .int .i64 0, .int .i64 0] → ∀ j x, [.int .i64 2, .int .i64 2][j]? = some x → u.cell? ((⟨w1.heap.size, 0, none⟩ : Addr).add j) = some x := by
      intro u hu j x hj
      match j, hj with
      | 0, hj => simp at hj; subst hj; exact hu.cell 0 _ rfl
      | 1, hj => simp at hj; subst hj; exact hu.cell 1 _ rfl
    go_loopw [8] (fun i wr => ∃ n : Nat, (n = 1 ∧ Hid (Box wr w1.heap.size 3 #[.int .i64 2, .int .i64 0, .int .i64 0, .int .i64 0]) ∨ n = 2 ∧ Hid (Box wr w1.heap.size 3 #[.int .i64 2, .int .i64 2, .int .i64 0, .int .i64 0]) ∨ n = 4 ∧ Hid (Box wr w1.heap.size 3 #[.int .i64 2, .int .i64 2, .int .i64 2, .int .i64 2])) ∧ i = .int .i64 n ∧ Hid (Keeps w wr)) (fun i _ => 4 - (intOf i).toNat)
    case atStart => exact ⟨1, .inl ⟨rfl, HG⟩, rfl, HK⟩
    case round =>
      clear HG HK hGB
      obtain ⟨n, hn, rfl, HK⟩ := hrel
      rcases hn with ⟨rfl, HG⟩ | ⟨rfl, HG⟩ | ⟨rfl, HG⟩
      · go_wp2_with fail
        go_region_law (refine step_copy_splice rfl (.tmp 41) (.tmp 44) 34 34 rfl 3 Try.underlying34 hsz (some ⟨w1.heap.size, 1, none⟩) (some ⟨w1.heap.size, 0, none⟩) 3 3 1 4 (by simp [go_sem]) (by simp [go_sem]) w1.heap.size 1 [.int .i64 2, .int .i64 0, .int .i64 0, .int .i64 0] 3 (by exact HG.out.keeps (Keeps.refl _).drew) [.int .i64 2] rfl (fun _ => ⟨rfl, _, rfl, hsrc1 _ (by exact HG.out.keeps (Keeps.refl _).drew)⟩) (by simp) (hcp _ (.inl rfl)) w1.heap.size wr (by exact (Below.refl _ _).drew) (Nat.le_refl _) ?_; intro w4 hg4 hb4)
        have hG2 : Hid (Box w4 w1.heap.size 3 #[.int .i64 2, .int .i64 2, .int .i64 0, .int .i64 0]) := Lib.hid hg4.out
        clear hg4
        simp only [Act.put, goInt, List.setIfInBounds_toArray, List.set_cons_zero, List.set_cons_succ, hwr2, hwr4]
        go_roundw
        case rel => exact ⟨_, _, _, _, _, _, _, _, _, _, _, _, _, _, ⟨2, .inr (.inl ⟨rfl, hG2⟩), rfl, HK.out.below hb4 hGl⟩, rfl⟩
        case measure => simp [intOf]
      · go_wp2_with fail
        go_region_law (refine step_copy_splice rfl (.tmp 41) (.tmp 44) 34 34 rfl 3 Try.underlying34 hsz (some ⟨w1.heap.size, 2, none⟩) (some ⟨w1.heap.size, 0, none⟩) 2 2 2 4 (by simp [go_sem]) (by simp [go_sem]) w1.heap.size 2 [.int .i64 2, .int .i64 2, .int .i64 0, .int .i64 0] 3 (by exact HG.out.keeps (Keeps.refl _).drew) [.int .i64 2, .int .i64 2] rfl (fun _ => ⟨rfl, _, rfl, hsrc2 _ (by exact HG.out.keeps (Keeps.refl _).drew)⟩) (by simp) (hcp _ (.inr rfl)) w1.heap.size wr (by exact (Below.refl _ _).drew) (Nat.le_refl _) ?_; intro w4 hg4 hb4)
        have hG2 : Hid (Box w4 w1.heap.size 3 #[.int .i64 2, .int .i64 2, .int .i64 2, .int .i64 2]) := Lib.hid hg4.out
        clear hg4
        simp only [Act.put, goInt, List.setIfInBounds_toArray, List.set_cons_zero, List.set_cons_succ, hwr2, hwr4]
        go_roundw
        case rel => exact ⟨_, _, _, _, _, _, _, _, _, _, _, _, _, _, ⟨4, .inr (.inr ⟨rfl, hG2⟩), rfl, HK.out.below hb4 hGl⟩, rfl⟩
        case measure => simp [intOf]
      · go_wp2_with fail
        go_ret
        exact ⟨_, rfl, HG.out, hGl, HK.out⟩
end Go.Proofs.Ytmjodcackmjllaa
