/- The walks of the reference of layer 7, 4: Plain. -/
import Derived.Test.YtmjodcackmjllaaM4
import Derived.Maps.AppendAt
namespace Go.Proofs.Ytmjodcackmjllaa
open Go.RowKit
set_option linter.unusedVariables false
set_option linter.unusedSimpArgs false
theorem info_boolM : (Try.prog.info? 4).map (fun i => (i.zero, i.size, i.bytes)) = some (some (.bool false), 1, 1) := by kernel_rfl
theorem Box.putM {w : World} {b t : Nat} {c : Array Value} (h : Box w b t c) (i : Nat) (v : Value) : Box (w.setCell ⟨b, i, none⟩ v) b t (c.setIfInBounds i v) := heap_setCell_same w b i c t v h
theorem cell_alloc_put (w : World) (p : Addr) (v u : Value) (t : TypeId) : ((w.setCell p v).alloc (.cells #[u] t)).cell? ⟨w.heap.size, 0, none⟩ = some u := by
  have hh := World.cell?_alloc_new (w := w.setCell p v) #[u] t 0
  rw [World.size_setCell] at hh
  exact hh
theorem info_int' : (Try.prog.info? 3).map (fun i => (i.zero, i.size, i.bytes)) = some (some (.int .i64 0), 1, 8) := by kernel_rfl
/-- 'l = append(l, x)', with where the new one lies -/
theorem wpList_push_at {P : Program} {w : World} {ops : Array Oper} {rest : List Oper} {o : Oper} {a : Act} {Q : Exit → Act → World → Prop} (hgd : o.guard = none) (s x : Operand) (t : TypeId)
    (ho : o.op = .call { callee := .builtin .append, args := #[s, x], argTypes := #[t, t] }) (e bytes : Nat) (z : Value) (ht : P.underlying t = some (.slice e))
    (hinfo : (P.info? e).map (fun i => (i.zero, i.size, i.bytes)) = some (some z, 1, bytes)) (hz : z.cells.size = 1)
    (base : Nat) (v : Value) (xs : List Value) (hs : a.eval s = v) (hown : Own w base e v xs) (ad : Addr) (u : Value) (hx : a.eval x = .slice (some ad) 1 1) (hc : w.cell? ad = some u)
    (h1 : u.oneCell' = true) (hlen : (xs.length + 1) * bytes ≤ 140737488355328) (h63 : xs.length + 1 ≤ 9223372036854775807) (hbase : base ≤ w.heap.size)
    (h : ∀ v' w', Own w' base e v' (xs ++ [u]) → w.grownBy w' v.ownBlock → (v'.ownBlock = v.ownBlock ∨ v'.ownBlock = some w.heap.size) → wpList P ops Q rest (a.put o.dst v') w') : wpList P ops Q (o :: rest) a w := by
  obtain ⟨i, hi, hz0, hz1, hz2⟩ := info_parts hinfo
  refine wpList_append_own_at w hgd s x t ho base e i z 1 bytes ht hi hz0 hz1 hz2 hz (by decide) v xs.length xs hs hown ad 1 1 [u] hx rfl ?_ (by simpa using h1) (by unfold maxLen; omega) hlen hbase ?_
  · intro j y hj
    match j, hj with
    | 0, hj => simp at hj; subst hj; simpa [Addr.add] using hc
  · intro v' w' hown' hg _ hat
    refine h v' w' ?_ hg hat
    unfold Own; rw [List.length_append]; exact hown'
/-- three lists of the call's own grow side by side -/
structure Own3 (w : World) (base : Nat) (t1 t2 t3 : TypeId) (v1 v2 v3 : Value) (x1 x2 x3 : List Value) : Prop where
  o1 : Own w base t1 v1 x1
  o2 : Own w base t2 v2 x2
  o3 : Own w base t3 v3 x3
  d12 : ∀ g, v1.ownBlock = some g → v2.ownBlock ≠ some g
  d23 : ∀ g, v2.ownBlock = some g → v3.ownBlock ≠ some g
  d31 : ∀ g, v3.ownBlock = some g → v1.ownBlock ≠ some g
  big : base ≤ w.heap.size
section
variable {w w' : World} {base : Nat} {t1 t2 t3 : TypeId} {v1 v2 v3 : Value} {x1 x2 x3 : List Value}
theorem Own3.rot (h : Own3 w base t1 t2 t3 v1 v2 v3 x1 x2 x3) : Own3 w base t2 t3 t1 v2 v3 v1 x2 x3 x1 := ⟨h.o2, h.o3, h.o1, h.d23, h.d31, h.d12, h.big⟩
theorem Own3.keeps (h : Own3 w base t1 t2 t3 v1 v2 v3 x1 x2 x3) (hk : Keeps w w') : Own3 w' base t1 t2 t3 v1 v2 v3 x1 x2 x3 :=
  ⟨h.o1.keeps hk, h.o2.keeps hk, h.o3.keeps hk, h.d12, h.d23, h.d31, Nat.le_trans h.big hk.size⟩
theorem Own3.put (h : Own3 w base t1 t2 t3 v1 v2 v3 x1 x2 x3) (b i : Nat) (hb : b < base) (u : Value) : Own3 (w.setCell ⟨b, i, none⟩ u) base t1 t2 t3 v1 v2 v3 x1 x2 x3 :=
  ⟨h.o1.keepsBut (KeepsBut.setCell _ b i u) (fun e => by have := (h.o1.lt b e).1; omega), h.o2.keepsBut (KeepsBut.setCell _ b i u) (fun e => by have := (h.o2.lt b e).1; omega),
    h.o3.keepsBut (KeepsBut.setCell _ b i u) (fun e => by have := (h.o3.lt b e).1; omega), h.d12, h.d23, h.d31, Nat.le_trans h.big (KeepsBut.setCell _ b i u).size⟩
theorem Own3.push (h : Own3 w base t1 t2 t3 v1 v2 v3 x1 x2 x3) (v' : Value) (xs' : List Value) (ho : Own w' base t1 v' xs') (hg : w.grownBy w' v1.ownBlock) (hat : v'.ownBlock = v1.ownBlock ∨ v'.ownBlock = some w.heap.size) :
    Own3 w' base t1 t2 t3 v' v2 v3 xs' x2 x3 := by
  refine ⟨ho, h.o2.block fun k hk => hg.block k (h.o2.lt k hk).2 fun e => h.d12 k e.symm hk, h.o3.block fun k hk => hg.block k (h.o3.lt k hk).2 fun e => h.d31 k hk e.symm, fun g hv e => ?_, h.d23, fun g hv e => ?_, Nat.le_trans h.big hg.size⟩
  · rcases hat with ha | ha
    · exact h.d12 g (ha ▸ hv) e
    · rw [hv] at ha
      have := (h.o2.lt g e).2
      simp only [Option.some.injEq] at ha
      omega
  · rcases hat with ha | ha
    · exact h.d31 g hv (ha ▸ e)
    · rw [e] at ha
      have := (h.o3.lt g hv).2
      simp only [Option.some.injEq] at ha
      omega
theorem Own3.box (h : Own3 w base t1 t2 t3 v1 v2 v3 x1 x2 x3) (hg : w.grownBy w' v1.ownBlock) {b t : Nat} {c : Array Value} (hb : Box w b t c) (hlt : b < base) : Box w' b t c :=
  (hg.block b hb.lt fun e => by have := (h.o1.lt b e.symm).1; omega).trans hb
theorem Own3.keepsTo (h : Own3 w base t1 t2 t3 v1 v2 v3 x1 x2 x3) (hg : w.grownBy w' v1.ownBlock) {a : World} (hk : Keeps a w) (ha : a.heap.size ≤ base) : Keeps a w' :=
  hk.below ((Below.refl base w).grown hg h.big fun k hk' => (h.o1.lt k hk').1) ha
theorem Own3.nil (w : World) (base : Nat) (t1 t2 t3 : TypeId) (hb : base ≤ w.heap.size) : Own3 w base t1 t2 t3 (.slice none 0 0) (.slice none 0 0) (.slice none 0 0) [] [] [] :=
  ⟨Own.nil _ _ _, Own.nil _ _ _, Own.nil _ _ _, fun g h => by simp [Value.ownBlock] at h, fun g h => by simp [Value.ownBlock] at h, fun g h => by simp [Value.ownBlock] at h, hb⟩
theorem Own3.shape1 (h : Own3 w base t1 t2 t3 v1 v2 v3 x1 x2 x3) (k : Nat) (hk : x1.length = k) : ∃ a cap, v1 = .slice a k cap ∧ k ≤ cap ∧ cap ≤ 9223372036854775807 := by
  obtain ⟨a, cap, h1, h2, h3, -⟩ := h.o1.shape
  subst hk
  exact ⟨a, cap, h1, h2, h3⟩
end
theorem own_bools {w : World} {base t k : Nat} {v : Value} (h : Own w base t v (List.replicate k (.bool true))) : Bools w v (List.replicate k true) := Own.bools (by rw [List.map_replicate]; exact h)
theorem own_ints {w : World} {base t k : Nat} {v : Value} (h : Own w base t v (List.replicate k (.int .i64 2))) : Ints w v (List.replicate k 2) := Own.ints (by rw [List.map_replicate]; exact h)
theorem one_bool {w : World} {B : Nat} (h : Box w B 4 #[.bool true]) : Bools w (.slice (some ⟨B, 0, none⟩) 1 1) [true] := by
  refine ⟨_, 1, rfl, by simp, by decide, rfl, fun i hi => ⟨B, 0, rfl, ?_⟩⟩
  have : i = 0 := by simpa using hi
  subst this
  exact h.cell 0 _ rfl
/-- the mode and the list that Plain has made -/
def plainX (l2 l3 : Option Addr) (k p2 p3 B : Nat) : RM := ⟨.slice l2 k p2, .slice l3 k p3, .slice (some ⟨B, 0, none⟩) 1 1, List.replicate k 2, List.replicate k true, [true]⟩
theorem plain_in {W : World} {base G B k : Nat} {l1 l2 l3 : Option Addr} {p1 p2 p3 : Nat} (no sl ga wi dr de : Int)
    (h3 : Own3 W base 4 3 4 (.slice l1 k p1) (.slice l2 k p2) (.slice l3 k p3) (List.replicate k (.bool true)) (List.replicate k (.int .i64 2)) (List.replicate k (.bool true)))
    (hT : Box W B 4 #[.bool true]) (hG : Box W G 71 #[.slice l2 k p2, .slice l3 k p3, .slice (some ⟨B, 0, none⟩) 1 1]) :
    RMedl.In ⟨no, sl, ga, wi, dr, de, .slice l1 k p1, List.replicate k true, some ⟨G, 0, none⟩, 1, 1, [plainX l2 l3 k p2 p3 B]⟩ W := by
  refine ⟨own_bools h3.o1, rfl, Nat.le_refl _, by show (1 : Nat) ≤ _; decide, fun x hx => ?_, fun i hi => ⟨G, 0, rfl, ?_⟩⟩
  · simp only [List.mem_singleton] at hx
    subst hx
    exact ⟨own_ints h3.o2, own_bools h3.o3, one_bool hT⟩
  · have : i = 0 := by simpa using hi
    subst this
    exact ⟨hG.cell 0 _ rfl, hG.cell 1 _ rfl, hG.cell 2 _ rfl⟩
/-- the smallest list -/
structure PlainM (n dr : Int) (w : World) (m : RMedl) : Prop where
  isIn : m.In w
  nodes : m.nodes = n
  drift : m.drift = dr
  delay : m.delay = 1
  window : m.window = 16 * n * dr + 16
  gap : m.gap = 2 * m.window + 2 * m.delay + 4
  slot : m.slot = 2 * m.gap + m.mair
  cs : m.cs = List.replicate n.toNat true
  xs : ∃ x, m.xs = [x] ∧ x.ds = List.replicate n.toNat 2 ∧ x.es = List.replicate n.toNat true ∧ x.ns = [true]
theorem rep_succ (k : Nat) (v : Value) : List.replicate k v ++ [v] = List.replicate (k + 1) v := by rw [List.replicate_succ']
set_option maxRecDepth 100000 in
set_option maxHeartbeats 1000000 in
theorem rplain_any (n dr : Int) (w : World) (h1 : 4 ≤ n) (h2 : n ≤ 8) (h3 : 0 ≤ dr) (h4 : dr ≤ 64) :
    Calls Try.prog 28 #[.int .i64 n, .int .i64 dr] w fun e w' => ∃ m : RMedl, e = .returned (.tuple #[m.val, .int .i64 0]) ∧ PlainM n dr w' m ∧ Keeps w w' := by
  have a1 : decide (n < 4) = false := by simp; omega
  have a2 : decide (8 < n) = false := by simp; omega
  have a3 : decide (dr < 0) = false := by simp; omega
  have a4 : decide (64 < dr) = false := by simp; omega
  go_enter Try.func28, Try.ntmps28
  go_wp2_with fail
  clear a1 a2 a3 a4
  have hz := ((Box.new w 25 #[.int .i64 0, .int .i64 0, .int .i64 0, .int .i64 0, .int .i64 0, .int .i64 0, .slice none 0 0, .slice none 0 0]).next (.cells #[.int .i64 n, .int .i64 0, .int .i64 0, .int .i64 0, .int .i64 dr, .int .i64 1, .slice none 0 0, .slice none 0 0] 25)).next (.cells #[.bool true] 4) |>.next (.cells #[.slice none 0 0, .slice none 0 0, .slice (some ⟨w.heap.size + 1 + 1, 0, none⟩) 1 1] 71)
  have hm := ((Box.new (w.alloc (.cells #[.int .i64 0, .int .i64 0, .int .i64 0, .int .i64 0, .int .i64 0, .int .i64 0, .slice none 0 0, .slice none 0 0] 25)) 25 #[.int .i64 n, .int .i64 0, .int .i64 0, .int .i64 0, .int .i64 dr, .int .i64 1, .slice none 0 0, .slice none 0 0]).next (.cells #[.bool true] 4)).next (.cells #[.slice none 0 0, .slice none 0 0, .slice (some ⟨w.heap.size + 1 + 1, 0, none⟩) 1 1] 71)
  have ht := (Box.new ((w.alloc (.cells #[.int .i64 0, .int .i64 0, .int .i64 0, .int .i64 0, .int .i64 0, .int .i64 0, .slice none 0 0, .slice none 0 0] 25)).alloc (.cells #[.int .i64 n, .int .i64 0, .int .i64 0, .int .i64 0, .int .i64 dr, .int .i64 1, .slice none 0 0, .slice none 0 0] 25)) 4 #[.bool true]).next (.cells #[.slice none 0 0, .slice none 0 0, .slice (some ⟨w.heap.size + 1 + 1, 0, none⟩) 1 1] 71)
  have hx := Box.new (((w.alloc (.cells #[.int .i64 0, .int .i64 0, .int .i64 0, .int .i64 0, .int .i64 0, .int .i64 0, .slice none 0 0, .slice none 0 0] 25)).alloc (.cells #[.int .i64 n, .int .i64 0, .int .i64 0, .int .i64 0, .int .i64 dr, .int .i64 1, .slice none 0 0, .slice none 0 0] 25)).alloc (.cells #[.bool true] 4)) 71 #[.slice none 0 0, .slice none 0 0, .slice (some ⟨w.heap.size + 1 + 1, 0, none⟩) 1 1]
  rw [World.size_alloc] at hm
  rw [World.size_alloc, World.size_alloc] at ht
  rw [World.size_alloc, World.size_alloc, World.size_alloc] at hx
  have HZ := Lib.hid hz
  have HM := Lib.hid hm
  have HT := Lib.hid ht
  have HX := Lib.hid hx
  clear hz hm ht hx
  have HK := Lib.hid (((((Keeps.refl w).alloc (.cells #[.int .i64 0, .int .i64 0, .int .i64 0, .int .i64 0, .int .i64 0, .int .i64 0, .slice none 0 0, .slice none 0 0] 25)).alloc (.cells #[.int .i64 n, .int .i64 0, .int .i64 0, .int .i64 0, .int .i64 dr, .int .i64 1, .slice none 0 0, .slice none 0 0] 25)).alloc (.cells #[.bool true] 4)).alloc (.cells #[.slice none 0 0, .slice none 0 0, .slice (some ⟨w.heap.size + 1 + 1, 0, none⟩) 1 1] 71))
  have H3 := Lib.hid (Own3.nil ((((w.alloc (.cells #[.int .i64 0, .int .i64 0, .int .i64 0, .int .i64 0, .int .i64 0, .int .i64 0, .slice none 0 0, .slice none 0 0] 25)).alloc (.cells #[.int .i64 n, .int .i64 0, .int .i64 0, .int .i64 0, .int .i64 dr, .int .i64 1, .slice none 0 0, .slice none 0 0] 25)).alloc (.cells #[.bool true] 4)).alloc (.cells #[.slice none 0 0, .slice none 0 0, .slice (some ⟨w.heap.size + 1 + 1, 0, none⟩) 1 1] 71)) (w.heap.size + 4) 4 3 4 (by simp))
  go_loopw [8] (fun i wr => ∃ k : Nat, ∃ v1 v2 v3 : Value, (k : Int) ≤ n ∧ i = .int .i64 k ∧ Hid (Own3 wr (w.heap.size + 4) 4 3 4 v1 v2 v3 (List.replicate k (.bool true)) (List.replicate k (.int .i64 2)) (List.replicate k (.bool true))) ∧ Hid (Box wr w.heap.size 25 #[.int .i64 0, .int .i64 0, .int .i64 0, .int .i64 0, .int .i64 0, .int .i64 0, .slice none 0 0, .slice none 0 0]) ∧ Hid (Box wr (w.heap.size + 1) 25 #[.int .i64 n, .int .i64 0, .int .i64 0, .int .i64 0, .int .i64 dr, .int .i64 1, v1, .slice none 0 0]) ∧ Hid (Box wr (w.heap.size + 1 + 1) 4 #[.bool true]) ∧ Hid (Box wr (w.heap.size + 1 + 1 + 1) 71 #[v2, v3, .slice (some ⟨w.heap.size + 1 + 1, 0, none⟩) 1 1]) ∧ Hid (Keeps w wr)) (fun i _ => (n - intOf i).toNat)
  case atStart => exact ⟨0, _, _, _, by omega, rfl, H3, HZ, HM, HT, HX, HK⟩
  case round =>
    clear HZ HM HT HX HK H3
    obtain ⟨k, v1, v2, v3, hk, rfl, H3, HZ, HM, HT, HX, HK⟩ := hrel
    have hbig := H3.out.big
    obtain ⟨l1, p1, rfl, hp1, hq1⟩ := H3.out.shape1 k (by simp)
    obtain ⟨l2, p2, rfl, hp2, hq2⟩ := H3.out.rot.shape1 k (by simp)
    obtain ⟨l3, p3, rfl, hp3, hq3⟩ := H3.out.rot.rot.shape1 k (by simp)
    by_cases hlt : (k : Int) < n
    · have hd : decide ((k : Int) < n) = true := by simpa using hlt
      have hm6 := HM.out.cell 6 _ rfl
      have hmf := HM.out.frozen
      have hml := HM.out.lt
      go_wp2_with (refine wpList_push_at rfl _ _ 22 rfl 4 1 (.bool false) Try.underlying22 info_boolM rfl (w.heap.size + 4) _ _ rfl (by exact H3.out.o1.keeps ((Keeps.refl _).alloc _)) _ _ rfl (by exact World.cell?_alloc_new _ _ _ _) rfl ?h1 ?h2 ?h3 ?hmain)
      case h1 => simp; omega
      case h2 => simp; omega
      case h3 => simp; omega
      case hmain =>
        intro v1' w1 ho hg hat
        have H3a := H3.out.keeps ((Keeps.refl wr).alloc (.cells #[.bool true] 4))
        replace HZ := Lib.hid (H3a.box hg (HZ.out.next _) (by omega))
        replace HM := Lib.hid (H3a.box hg (HM.out.next _) (by omega))
        replace HT := Lib.hid (H3a.box hg (HT.out.next _) (by omega))
        replace HX := Lib.hid (H3a.box hg (HX.out.next _) (by omega))
        replace HK := Lib.hid (H3a.keepsTo hg (HK.out.alloc _) (by omega))
        have h3n := (H3a.push v1' _ ho hg (by rw [World.size_alloc]; exact hat))
        rw [rep_succ] at h3n
        replace H3 := Lib.hid h3n
        clear H3a ho hg hat h3n hm6 hmf hml hbig
        obtain ⟨l1', p1', rfl, hp1', hq1'⟩ := H3.out.shape1 (k + 1) (by simp)
        have hm6 := HM.out.cell 6 _ rfl
        have hmf := HM.out.frozen
        have hml := HM.out.lt
        have hx0 := HX.out.cell 0 _ rfl
        have hx1 := HX.out.cell 1 _ rfl
        have hxf := HX.out.frozen
        have hxl := HX.out.lt
        replace H3 := Lib.hid (H3.out.put (w.heap.size + 1) 6 (by omega) (.slice l1' (k + 1) p1'))
        replace HZ := Lib.hid (HZ.out.keepsBut (KeepsBut.setCell _ (w.heap.size + 1) 6 (.slice l1' (k + 1) p1')) (by omega))
        replace HT := Lib.hid (HT.out.keepsBut (KeepsBut.setCell _ (w.heap.size + 1) 6 (.slice l1' (k + 1) p1')) (by omega))
        replace HX := Lib.hid (HX.out.keepsBut (KeepsBut.setCell _ (w.heap.size + 1) 6 (.slice l1' (k + 1) p1')) (by omega))
        replace HM := Lib.hid (HM.out.putM 6 (.slice l1' (k + 1) p1'))
        replace HK := Lib.hid (HK.out.setCell (p := ⟨w.heap.size + 1, 6, none⟩) (by simp) (.slice l1' (k + 1) p1'))
        have hbig := H3.out.big
        go_wp2_with (refine wpList_push_at rfl _ _ 34 rfl 3 8 (.int .i64 0) Try.underlying34 info_int' rfl (w.heap.size + 4) _ _ rfl (by exact H3.out.rot.o1.keeps ((Keeps.refl _).alloc _)) _ (.int .i64 2) rfl (by exact cell_alloc_put _ _ _ _ _) rfl ?h1b ?h2b ?h3b ?hmainb)
        case h1b => simp; omega
        case h2b => simp; omega
        case h3b => simp; omega
        case hmainb =>
          intro v2' w2 ho hg hat
          have H3a := H3.out.rot.keeps ((Keeps.refl _).alloc (.cells #[.int .i64 2] 3))
          replace HZ := Lib.hid (H3a.box hg (HZ.out.next _) (by omega))
          replace HM := Lib.hid (H3a.box hg (HM.out.next _) (by omega))
          replace HT := Lib.hid (H3a.box hg (HT.out.next _) (by omega))
          replace HX := Lib.hid (H3a.box hg (HX.out.next _) (by omega))
          replace HK := Lib.hid (H3a.keepsTo hg (HK.out.alloc _) (by omega))
          have h3n := (H3a.push v2' _ ho hg (by first | exact hat | (simp only [World.size_alloc]; exact hat) | simpa using hat))
          rw [rep_succ] at h3n
          replace H3 := Lib.hid h3n.rot.rot
          clear H3a ho hg hat h3n hm6 hmf hml hx0 hx1 hxf hxl
          obtain ⟨l2', p2', rfl, hp2', hq2'⟩ := H3.out.rot.shape1 (k + 1) (by simp)
          have hm6 := HM.out.cell 6 _ rfl
          have hmf := HM.out.frozen
          have hml := HM.out.lt
          have hx0 := HX.out.cell 0 _ rfl
          have hx1 := HX.out.cell 1 _ rfl
          have hxf := HX.out.frozen
          have hxl := HX.out.lt
          replace H3 := Lib.hid (H3.out.put (w.heap.size + 1 + 1 + 1) 0 (by omega) (.slice l2' (k + 1) p2'))
          replace HZ := Lib.hid (HZ.out.keepsBut (KeepsBut.setCell _ (w.heap.size + 1 + 1 + 1) 0 (.slice l2' (k + 1) p2')) (by omega))
          replace HT := Lib.hid (HT.out.keepsBut (KeepsBut.setCell _ (w.heap.size + 1 + 1 + 1) 0 (.slice l2' (k + 1) p2')) (by omega))
          replace HM := Lib.hid (HM.out.keepsBut (KeepsBut.setCell _ (w.heap.size + 1 + 1 + 1) 0 (.slice l2' (k + 1) p2')) (by omega))
          replace HX := Lib.hid (HX.out.putM 0 (.slice l2' (k + 1) p2'))
          replace HK := Lib.hid (HK.out.setCell (p := ⟨w.heap.size + 1 + 1 + 1, 0, none⟩) (by simp; omega) (.slice l2' (k + 1) p2'))
          clear hbig
          have hbig := H3.out.big
          go_wp2_with (refine wpList_push_at rfl _ _ 22 rfl 4 1 (.bool false) Try.underlying22 info_boolM rfl (w.heap.size + 4) _ _ rfl (by exact H3.out.rot.rot.o1.keeps ((Keeps.refl _).alloc _)) _ (.bool true) rfl (by exact cell_alloc_put _ _ _ _ _) rfl ?h1c ?h2c ?h3c ?hmainc)
          case h1c => simp; omega
          case h2c => simp; omega
          case h3c => simp; omega
          case hmainc =>
            intro v3' w3 ho hg hat
            have H3a := H3.out.rot.rot.keeps ((Keeps.refl _).alloc (.cells #[.bool true] 4))
            replace HZ := Lib.hid (H3a.box hg (HZ.out.next _) (by omega))
            replace HM := Lib.hid (H3a.box hg (HM.out.next _) (by omega))
            replace HT := Lib.hid (H3a.box hg (HT.out.next _) (by omega))
            replace HX := Lib.hid (H3a.box hg (HX.out.next _) (by omega))
            replace HK := Lib.hid (H3a.keepsTo hg (HK.out.alloc _) (by omega))
            have h3n := (H3a.push v3' _ ho hg (by first | exact hat | (simp only [World.size_alloc]; exact hat) | simpa using hat))
            rw [rep_succ] at h3n
            replace H3 := Lib.hid h3n.rot
            clear H3a ho hg hat h3n hm6 hmf hml hx0 hx1 hxf hxl
            obtain ⟨l3', p3', rfl, hp3', hq3'⟩ := H3.out.rot.rot.shape1 (k + 1) (by simp)
            have hm6 := HM.out.cell 6 _ rfl
            have hmf := HM.out.frozen
            have hml := HM.out.lt
            have hx0 := HX.out.cell 0 _ rfl
            have hx1 := HX.out.cell 1 _ rfl
            have hxf := HX.out.frozen
            have hxl := HX.out.lt
            replace H3 := Lib.hid (H3.out.put (w.heap.size + 1 + 1 + 1) 1 (by omega) (.slice l3' (k + 1) p3'))
            replace HZ := Lib.hid (HZ.out.keepsBut (KeepsBut.setCell _ (w.heap.size + 1 + 1 + 1) 1 (.slice l3' (k + 1) p3')) (by omega))
            replace HT := Lib.hid (HT.out.keepsBut (KeepsBut.setCell _ (w.heap.size + 1 + 1 + 1) 1 (.slice l3' (k + 1) p3')) (by omega))
            replace HM := Lib.hid (HM.out.keepsBut (KeepsBut.setCell _ (w.heap.size + 1 + 1 + 1) 1 (.slice l3' (k + 1) p3')) (by omega))
            replace HX := Lib.hid (HX.out.putM 1 (.slice l3' (k + 1) p3'))
            replace HK := Lib.hid (HK.out.setCell (p := ⟨w.heap.size + 1 + 1 + 1, 1, none⟩) (by simp; omega) (.slice l3' (k + 1) p3'))
            go_wp2_with fail
            go_roundw
            case rel => exact ⟨k + 1, _, _, _, by omega, by go_num, H3, HZ, HM, HT, HX, HK⟩
            case measure => simp [intOf]; omega
    · obtain rfl : n = (k : Int) := by omega
      have hd : decide ((k : Int) < (k : Int)) = false := by simp
      have hd' : decide (k < k) = false := by simp
      have m0 := HM.out.cell 0 _ rfl
      have m1 := HM.out.cell 1 _ rfl
      have m2 := HM.out.cell 2 _ rfl
      have m3 := HM.out.cell 3 _ rfl
      have m4 := HM.out.cell 4 _ rfl
      have m5 := HM.out.cell 5 _ rfl
      have m6 := HM.out.cell 6 _ rfl
      have m7 := HM.out.cell 7 _ rfl
      have mf := HM.out.frozen
      have ml := HM.out.lt
      have x0 := HX.out.cell 0 _ rfl
      have x1 := HX.out.cell 1 _ rfl
      have x2 := HX.out.cell 2 _ rfl
      have xl := HX.out.lt
      have hnd : 0 ≤ (k : Int) * dr := Int.mul_nonneg (by omega) h3
      have hnd2 : (k : Int) * dr ≤ 8 * 64 := Int.mul_le_mul h2 h4 h3 (by omega)
      have hnd3 : 16 * (k : Int) * dr = 16 * ((k : Int) * dr) := Int.mul_assoc _ _ _
      have hw1 : IntKind.i64.wrap (16 * (k : Int)) = 16 * (k : Int) := by simp [IntKind.wrap, IntKind.bits, IntKind.signed]; omega
      have hw2 : IntKind.i64.wrap (16 * (k : Int) * dr) = 16 * ((k : Int) * dr) := by rw [hnd3]; simp [IntKind.wrap, IntKind.bits, IntKind.signed]; omega
      have hw3 : IntKind.i64.wrap (16 * ((k : Int) * dr) + 16) = 16 * ((k : Int) * dr) + 16 := by simp [IntKind.wrap, IntKind.bits, IntKind.signed]; omega
      have hw4 : IntKind.i64.wrap (2 * (16 * ((k : Int) * dr) + 16)) = 2 * (16 * ((k : Int) * dr) + 16) := by simp [IntKind.wrap, IntKind.bits, IntKind.signed]; omega
      have hw5 : IntKind.i64.wrap (2 * (16 * ((k : Int) * dr) + 16) + 2) = 2 * (16 * ((k : Int) * dr) + 16) + 2 := by simp [IntKind.wrap, IntKind.bits, IntKind.signed]; omega
      have hw6 : IntKind.i64.wrap (2 * (16 * ((k : Int) * dr) + 16) + 2 + 4) = 2 * (16 * ((k : Int) * dr) + 16) + 2 + 4 := by simp [IntKind.wrap, IntKind.bits, IntKind.signed]; omega
      have hw7 : IntKind.i64.wrap (2 * (2 * (16 * ((k : Int) * dr) + 16) + 2 + 4)) = 2 * (2 * (16 * ((k : Int) * dr) + 16) + 2 + 4) := by simp [IntKind.wrap, IntKind.bits, IntKind.signed]; omega
      go_wp2_with fail
      have hbig := H3.out.big
      obtain ⟨WW, hWW⟩ : ∃ WW, WW = ((((wr.setCell ⟨w.heap.size + 1, 7, none⟩ (.slice (some ⟨wr.heap.size, 0, none⟩) 1 1)).setCell ⟨w.heap.size + 1, 3, none⟩ (.int .i64 (16 * ((k : Int) * dr) + 16))).setCell ⟨w.heap.size + 1, 2, none⟩ (.int .i64 (2 * (16 * ((k : Int) * dr) + 16) + 2 + 4))).alloc (.cells #[.slice l2 k p2, .slice l3 k p3, .slice (some ⟨w.heap.size + 1 + 1, 0, none⟩) 1 1] 71)) := ⟨_, rfl⟩
      have HGW : Hid (Box WW wr.heap.size 71 #[.slice l2 k p2, .slice l3 k p3, .slice (some ⟨w.heap.size + 1 + 1, 0, none⟩) 1 1]) := Lib.hid (by
        have h := Box.new ((((wr.setCell ⟨w.heap.size + 1, 7, none⟩ (.slice (some ⟨wr.heap.size, 0, none⟩) 1 1)).setCell ⟨w.heap.size + 1, 3, none⟩ (.int .i64 (16 * ((k : Int) * dr) + 16))).setCell ⟨w.heap.size + 1, 2, none⟩ (.int .i64 (2 * (16 * ((k : Int) * dr) + 16) + 2 + 4)))) 71 #[.slice l2 k p2, .slice l3 k p3, .slice (some ⟨w.heap.size + 1 + 1, 0, none⟩) 1 1]
        simp only [World.size_setCell] at h
        rw [hWW]; exact h)
      have HMW : Hid (Box WW (w.heap.size + 1) 25 #[.int .i64 k, .int .i64 0, .int .i64 (2 * (16 * ((k : Int) * dr) + 16) + 2 + 4), .int .i64 (16 * ((k : Int) * dr) + 16), .int .i64 dr, .int .i64 1, .slice l1 k p1, .slice (some ⟨wr.heap.size, 0, none⟩) 1 1]) := Lib.hid (by
        rw [hWW]; exact (((HM.out.putM 7 _).putM 3 _).putM 2 _).next _)
      have HZW : Hid (Box WW w.heap.size 25 #[.int .i64 0, .int .i64 0, .int .i64 0, .int .i64 0, .int .i64 0, .int .i64 0, .slice none 0 0, .slice none 0 0]) := Lib.hid (by
        rw [hWW]; exact (((HZ.out.keepsBut (KeepsBut.setCell _ _ _ _) (by omega)).keepsBut (KeepsBut.setCell _ _ _ _) (by omega)).keepsBut (KeepsBut.setCell _ _ _ _) (by omega)).next _)
      have HTW : Hid (Box WW (w.heap.size + 1 + 1) 4 #[.bool true]) := Lib.hid (by
        rw [hWW]; exact (((HT.out.keepsBut (KeepsBut.setCell _ _ _ _) (by omega)).keepsBut (KeepsBut.setCell _ _ _ _) (by omega)).keepsBut (KeepsBut.setCell _ _ _ _) (by omega)).next _)
      have H3W : Hid (Own3 WW (w.heap.size + 4) 4 3 4 (.slice l1 k p1) (.slice l2 k p2) (.slice l3 k p3) (List.replicate k (.bool true)) (List.replicate k (.int .i64 2)) (List.replicate k (.bool true))) := Lib.hid (by
        rw [hWW]; exact (((H3.out.put _ 7 (by omega) _).put _ 3 (by omega) _).put _ 2 (by omega) _).keeps ((Keeps.refl _).alloc _))
      have HKW : Hid (Keeps w WW) := Lib.hid (by
        rw [hWW]; exact (((HK.out.setCell (by simp) _).setCell (by simp) _).setCell (by simp) _).alloc _)
      have hWl : wr.heap.size < WW.heap.size := HGW.out.lt
      rw [← hWW]
      clear hWW m0 m1 m2 m3 m4 m5 m6 m7 mf ml x0 x1 x2 xl HZ HM HT HX HK H3
      have hair := mairI_le (k : Int) [plainX l2 l3 k p2 p3 (w.heap.size + 1 + 1)]
      have HAI : Hid (∀ w', Keeps WW w' → Calls Try.prog 31 #[.agg #[.int .i64 k, .int .i64 0, .int .i64 (2 * (16 * ((k : Int) * dr) + 16) + 2 + 4), .int .i64 (16 * ((k : Int) * dr) + 16), .int .i64 dr, .int .i64 1, .slice l1 k p1, .slice (some ⟨wr.heap.size, 0, none⟩) 1 1]] w' fun e w'' => e = .returned (.int .i64 (mairI (k : Int) [plainX l2 l3 k p2 p3 (w.heap.size + 1 + 1)])) ∧ Keeps w' w'') := fun w' hk =>
        rmair_any ⟨k, 0, 2 * (16 * ((k : Int) * dr) + 16) + 2 + 4, 16 * ((k : Int) * dr) + 16, dr, 1, .slice l1 k p1, List.replicate k true, some ⟨wr.heap.size, 0, none⟩, 1, 1, [plainX l2 l3 k p2 p3 (w.heap.size + 1 + 1)]⟩ w' ((plain_in _ _ _ _ _ _ H3W.out HTW.out HGW.out).keeps hk)
      obtain ⟨A, hA⟩ : ∃ A, A = mairI (k : Int) [plainX l2 l3 k p2 p3 (w.heap.size + 1 + 1)] := ⟨_, rfl⟩
      rw [← hA] at hair HAI
      have HA := Lib.hid hA
      clear hA
      have hw8 : IntKind.i64.wrap (2 * (2 * (16 * ((k : Int) * dr) + 16) + 2 + 4) + A) = 2 * (2 * (16 * ((k : Int) * dr) + 16) + 2 + 4) + A := by simp [IntKind.wrap, IntKind.bits, IntKind.signed]; omega
      have c0 := HMW.out.later 0 _ rfl
      have c1 := HMW.out.later 1 _ rfl
      have c2 := HMW.out.later 2 _ rfl
      have c3 := HMW.out.later 3 _ rfl
      have c4 := HMW.out.later 4 _ rfl
      have c5 := HMW.out.later 5 _ rfl
      have c6 := HMW.out.later 6 _ rfl
      have c7 := HMW.out.later 7 _ rfl
      refine wp_region_quiet_tail (fun w' => ∃ k : Later WW, w' = k.w) 7 (by kernel_rfl) (by kernel_rfl) ⟨⟨WW.drew, (Keeps.refl WW).drew⟩, rfl⟩ ?_
      dsimp only [List.take, List.drop]
      repeat (go_big_quiet_step (first | (go_at_call 31; with_reducible exact Later.calls _ (HAI.out _ (Later.keeps _)))))
      refine wpQuiet_nil ?_
      rintro _ ⟨q, rfl⟩
      obtain ⟨wq, hwq⟩ := q
      simp only
      replace HGW := Lib.hid (HGW.out.keeps hwq)
      replace HMW := Lib.hid (HMW.out.keeps hwq)
      replace HZW := Lib.hid (HZW.out.keeps hwq)
      replace HTW := Lib.hid (HTW.out.keeps hwq)
      replace H3W := Lib.hid (H3W.out.keeps hwq)
      replace HKW := Lib.hid (HKW.out.trans hwq)
      clear c0 c1 c2 c3 c4 c5 c6 c7 HAI hwq
      have m0 := HMW.out.cell 0 _ rfl
      have z0 := HZW.out.cell 0 _ rfl
      have m1 := HMW.out.cell 1 _ rfl
      have z1 := HZW.out.cell 1 _ rfl
      have m2 := HMW.out.cell 2 _ rfl
      have z2 := HZW.out.cell 2 _ rfl
      have m3 := HMW.out.cell 3 _ rfl
      have z3 := HZW.out.cell 3 _ rfl
      have m4 := HMW.out.cell 4 _ rfl
      have z4 := HZW.out.cell 4 _ rfl
      have m5 := HMW.out.cell 5 _ rfl
      have z5 := HZW.out.cell 5 _ rfl
      have m6 := HMW.out.cell 6 _ rfl
      have z6 := HZW.out.cell 6 _ rfl
      have m7 := HMW.out.cell 7 _ rfl
      have z7 := HZW.out.cell 7 _ rfl
      have mf := HMW.out.frozen
      have ml := HMW.out.lt
      have zf := HZW.out.frozen
      have zl := HZW.out.lt
      go_wp2_with fail
      have hG4 : w.heap.size + 4 ≤ wr.heap.size := hbig
      refine bodyPost_ret (v := .tuple #[.agg #[.int .i64 k, .int .i64 (2 * (2 * (16 * ((k : Int) * dr) + 16) + 2 + 4) + A), .int .i64 (2 * (16 * ((k : Int) * dr) + 16) + 2 + 4), .int .i64 (16 * ((k : Int) * dr) + 16), .int .i64 dr, .int .i64 1, .slice l1 k p1, .slice (some ⟨wr.heap.size, 0, none⟩) 1 1], .int .i64 0])
        (by simp [results, Try.results28, go_sem, *]) rfl
        ⟨⟨k, 2 * (2 * (16 * ((k : Int) * dr) + 16) + 2 + 4) + A, 2 * (16 * ((k : Int) * dr) + 16) + 2 + 4, 16 * ((k : Int) * dr) + 16, dr, 1, .slice l1 k p1, List.replicate k true, some ⟨wr.heap.size, 0, none⟩, 1, 1, [plainX l2 l3 k p2 p3 (w.heap.size + 1 + 1)]⟩, rfl,
          ⟨?_, rfl, rfl, rfl, by rw [hnd3], by simp only; omega, by rw [HA.out]; rfl, by rw [Int.toNat_natCast], ⟨_, rfl, by rw [Int.toNat_natCast]; rfl, by rw [Int.toNat_natCast]; rfl, rfl⟩⟩, ?_⟩
      · refine plain_in _ _ _ _ _ _ (base := w.heap.size + 4) ?_ ?_ ?_
        · repeat (refine Own3.put ?_ _ _ (by omega) _)
          exact H3W.out
        · repeat (refine Box.keepsBut ?_ (KeepsBut.setCell _ _ _ _) (by omega))
          exact HTW.out
        · repeat (refine Box.keepsBut ?_ (KeepsBut.setCell _ _ _ _) (by omega))
          exact HGW.out
      · repeat (with_reducible refine Keeps.setCell ?_ (by simp) _)
        exact HKW.out
end Go.Proofs.Ytmjodcackmjllaa
