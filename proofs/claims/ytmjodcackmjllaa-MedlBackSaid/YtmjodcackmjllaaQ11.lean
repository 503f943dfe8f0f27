/- Bytes that are the same; a list of modes of the call's own. -/
import Derived.Test.YtmjodcackmjllaaQ10
import Derived.Laws.BytesArg
import Derived.Maps.AppendAt
namespace Go.Proofs.Ytmjodcackmjllaa
open Go.RowKit
set_option linter.unusedVariables false
set_option linter.unusedSimpArgs false
set_option maxRecDepth 100000
def strOf (l : List Nat) : ByteArray := ⟨(l.map UInt8.ofNat).toArray⟩
theorem strOf_inj {l m : List Nat} (hl : ∀ v ∈ l, v < 256) (hm : ∀ v ∈ m, v < 256) (h : strOf l = strOf m) : l = m := by
  unfold strOf at h
  simp only [ByteArray.mk.injEq] at h
  have key : ∀ (k : List Nat), (∀ v ∈ k, v < 256) → (k.map UInt8.ofNat).map UInt8.toNat = k := by
    intro k hk
    rw [List.map_map]
    conv => rhs; rw [← List.map_id k]
    apply List.map_congr_left
    intro v hv
    have := hk v hv
    simp [Nat.mod_eq_of_lt this]
  rw [← key l hl, ← key m hm, List.toArray_inj h]
theorem strOf_list (l : List Nat) : (strOf l).toList = l.map UInt8.ofNat := ByteArray.toList_mk _
theorem strOf_inj' {l m : List Nat} (hl : ∀ v ∈ l, v < 256) (hm : ∀ v ∈ m, v < 256) (h : l.map UInt8.ofNat = m.map UInt8.ofNat) : l = m :=
  strOf_inj hl hm (by unfold strOf; rw [h])
theorem Row.str {w : World} {a : Option Addr} {len cap : Nat} {l : List Nat} (h : Row w .u8 a len l) :
    (convert 61 9 (.slice a len cap)).run Try.prog w = .ok (.string (strOf l)) w := by
  by_cases h0 : len = 0
  · subst h0
    have : l = [] := List.eq_nil_of_length_eq_zero h.1
    subst this
    cases a with
    | none => exact run_convert_bytes_nil w 61 5 Try.underlying61 Try.underlying5 0 cap 9 Try.underlying9
    | some x =>
      rw [run_convert_bytes_string w 61 9 5 _ 0 cap Try.underlying61 Try.underlying5 Try.underlying9, run_bytesToString w x 0 cap [] (by
        have := run_loadCells_list (P := Try.prog) w x [] (fun j v hj => by simp at hj)
        simpa using this)]
      rfl
  · obtain ⟨b, off, hab, -⟩ := h.2 0 (by omega)
    subst hab
    have hc : ∀ i, i < len → w.cell? ⟨b, off + i, none⟩ = some (.int .u8 ((l.map Int.ofNat).getD i 0)) := by
      intro i hi
      obtain ⟨b', off', hab', hc'⟩ := h.2 i hi
      simp only [Option.some.injEq, Addr.mk.injEq, and_true] at hab'
      obtain ⟨rfl, rfl⟩ := hab'
      rw [hc']
      have hl := h.1
      simp [List.getD_eq_getElem?_getD, List.getElem?_eq_getElem (show i < l.length by omega)]
    have := run_convert_bytes_arg w 61 5 Try.underlying61 Try.underlying5 b off len cap (l.map Int.ofNat) (by simp [h.1]) hc 9 Try.underlying9
    rw [this]
    congr 2
    unfold strOfNums strOf
    simp [List.map_map, Function.comp_def]


theorem RowV.row8' {w : World} {a : Option Addr} {l : List Nat} (h : RowV w a l.length (u8s l)) : Row w .u8 a l.length l := h.row8
set_option maxHeartbeats 400000 in
theorem beq_any (a b : Option Addr) (c1 c2 : Nat) (l1 l2 : List Nat) (w : World) (h1 : RowV w a l1.length (u8s l1)) (h2 : RowV w b l2.length (u8s l2)) (hb1 : ∀ x ∈ l1, x < 256) (hb2 : ∀ x ∈ l2, x < 256) :
    Calls Try.prog 53 #[.slice a l1.length c1, .slice b l2.length c2] w fun e w' => e = .returned (.bool (decide (l1 = l2))) ∧ w' = w := by
  have hc1 := Row.str (cap := c1) h1.row8
  have hc2 := Row.str (cap := c2) h2.row8
  clear h1 h2
  have hs : ((strOf l1).toList == (strOf l2).toList) = decide (l1 = l2) := by
    rw [Bool.eq_iff_iff, beq_iff_eq, decide_eq_true_eq]
    exact ⟨fun h => strOf_inj' hb1 hb2 (by rw [strOf_list, strOf_list] at h; exact h), fun h => by rw [h]⟩
  clear hb1 hb2
  generalize l1.length = n1 at *
  generalize l2.length = n2 at *
  go_enter Try.func53, Try.ntmps53
  go_wp2_with fail
  go_ret
  exact ⟨rfl, rfl⟩
/-- blocks below a world's size, that a value does not lie in -/
theorem RowV.blocks {w w' : World} {a : Option Addr} {n : Nat} {vs : List Value} (h : RowV w a n vs) (hb : ∀ ad, a = some ad → ad.block < w.heap.size → w'.heap[ad.block]? = w.heap[ad.block]?) : RowV w' a n vs := by
  refine ⟨h.1, fun i hi => ?_⟩
  obtain ⟨b, off, hab, hc⟩ := h.2 i hi
  have h1 := h.1
  have hs : vs[i]? = some (vs[i]'(by omega)) := List.getElem?_eq_getElem _
  have hlt : b < w.heap.size := World.block_lt_of_cell? w ⟨b, off + i, none⟩ (hc.trans hs)
  have := hb ⟨b, off, none⟩ hab hlt
  exact ⟨b, off, hab, (World.cell?_of_block (a := ⟨b, off + i, none⟩) this).trans hc⟩
theorem Bools.blocks {w w' : World} {v : Value} {bs : List Bool} (h : Bools w v bs) (hb : ∀ k, v.ownBlock = some k → k < w.heap.size → w'.heap[k]? = w.heap[k]?) : Bools w' v bs := by
  obtain ⟨a, cap, rfl, h2, h3, h4⟩ := h.shape
  exact ⟨a, cap, rfl, h2, h3, h4.blocks fun ad e => hb _ (by rw [e]; rfl)⟩
theorem Ints.blocks {w w' : World} {v : Value} {zs : List Int} (h : Ints w v zs) (hb : ∀ k, v.ownBlock = some k → k < w.heap.size → w'.heap[k]? = w.heap[k]?) : Ints w' v zs := by
  obtain ⟨a, cap, rfl, h2, h3, h4⟩ := h.shape
  exact ⟨a, cap, rfl, h2, h3, h4.blocks fun ad e => hb _ (by rw [e]; rfl)⟩
def RM.cells (x : RM) : List Value := [x.dv, x.ev, x.nv]
def xcells (xs : List RM) : List Value := xs.flatMap RM.cells
theorem xcells_length (xs : List RM) : (xcells xs).length = xs.length * 3 := by
  induction xs with
  | nil => rfl
  | cons x xs ih => unfold xcells at *; simp [RM.cells, ih]; omega
theorem xcells_get : ∀ (xs : List RM) (i j : Nat) (hi : i < xs.length), j < 3 → (xcells xs)[i * 3 + j]? = xs[i].cells[j]?
  | x :: xs, 0, j, hi, hj => by
    unfold xcells
    simp only [List.flatMap_cons, Nat.zero_mul, Nat.zero_add, List.getElem_cons_zero]
    rw [List.getElem?_append_left (by simp [RM.cells]; omega)]
  | x :: xs, i + 1, j, hi, hj => by
    have := xcells_get xs i j (by simpa using hi) hj
    unfold xcells at *
    simp only [List.flatMap_cons, List.getElem_cons_succ]
    rw [List.getElem?_append_right (by simp [RM.cells]; omega), ← this]
    congr 1
    simp [RM.cells]; omega
/-- the block of a mode's slices -/
def RM.at (x : RM) (k : Nat) : Prop := x.dv.ownBlock = some k ∨ x.ev.ownBlock = some k ∨ x.nv.ownBlock = some k
theorem RM.In.blocks {x : RM} {w w' : World} (h : x.In w) (hb : ∀ k, x.at k → k < w.heap.size → w'.heap[k]? = w.heap[k]?) : x.In w' :=
  ⟨h.d.blocks fun k e => hb k (.inl e), h.e.blocks fun k e => hb k (.inr (.inl e)), h.n.blocks fun k e => hb k (.inr (.inr e))⟩
/-- a list of modes that the call itself has made, from block 'base' on -/
structure OwnX (w : World) (base : Nat) (v : Value) (xs : List RM) : Prop where
  row : w.ownsRow base 71 3 v xs.length (xcells xs)
  isIn : ∀ x ∈ xs, x.In w
  far : ∀ x ∈ xs, ∀ k, x.at k → base ≤ k ∧ k < w.heap.size ∧ v.ownBlock ≠ some k
theorem OwnX.nil (w : World) (base : Nat) : OwnX w base (.slice none 0 0) [] := ⟨World.ownsRow_nil _ _ _ _, fun x hx => (by cases hx), fun x hx => by cases hx⟩
theorem OwnX.lt {w : World} {base : Nat} {v : Value} {xs : List RM} (h : OwnX w base v xs) : ∀ k, v.ownBlock = some k → base ≤ k ∧ k < w.heap.size := World.ownsRow.lt h.row
/-- only blocks below the base have turned -/
theorem OwnX.low {w w' : World} {base : Nat} {v : Value} {xs : List RM} (h : OwnX w base v xs) (hs : w.heap.size ≤ w'.heap.size) (hk : ∀ k, base ≤ k → k < w.heap.size → w'.heap[k]? = w.heap[k]?) : OwnX w' base v xs := by
  refine ⟨⟨h.row.1, ?_⟩, fun x hx => (h.isIn x hx).blocks fun k hat _ => hk k (h.far x hx k hat).1 (h.far x hx k hat).2.1, fun x hx k hat => ⟨(h.far x hx k hat).1, Nat.lt_of_lt_of_le (h.far x hx k hat).2.1 hs, (h.far x hx k hat).2.2⟩⟩
  rcases h.row.2 with hn | ⟨g, cap, cur, rfl, hbg, hg, rest⟩
  · exact .inl hn
  · exact .inr ⟨g, cap, cur, rfl, hbg, by rw [hk g hbg (h.lt g rfl).2]; exact hg, rest⟩
theorem OwnX.but {w w' : World} {base g : Nat} {v : Value} {xs : List RM} (h : OwnX w base v xs) (hk : KeepsBut g w w') (hg : g < base) : OwnX w' base v xs :=
  h.low hk.size fun k hb hl => hk.block k hl (by omega)
theorem OwnX.rms {w : World} {base : Nat} {v : Value} {xs : List RM} (h : OwnX w base v xs) : ∃ a cap, v = .slice a xs.length cap ∧ RMs w a xs.length cap xs := by
  have h' := h.row
  rcases h.row.2 with ⟨hv, hn⟩ | ⟨g, cap, cur, hv, hbg, hg, hn, hm, hs, ht⟩
  · obtain rfl := List.eq_nil_of_length_eq_zero hn
    exact ⟨none, 0, hv, rfl, Nat.le_refl _, by decide, fun x hx => (by cases hx), fun i hi => absurd hi (Nat.not_lt_zero _)⟩
  · subst hv
    refine ⟨_, cap, rfl, ⟨rfl, hn, by unfold maxLen at hm; omega, h.isIn, fun i hi => ⟨g, 0, rfl, ?_, ?_, ?_⟩⟩⟩
    · have := World.ownsRow.cellAt h' (i * 3) (by omega)
      rw [show i * 3 = i * 3 + 0 from rfl, xcells_get xs i 0 hi (by decide)] at this
      simpa [RM.cells] using this
    · have := World.ownsRow.cellAt h' (i * 3 + 1) (by omega)
      rw [xcells_get xs i 1 hi (by decide)] at this
      simpa [RM.cells] using this
    · have := World.ownsRow.cellAt h' (i * 3 + 2) (by omega)
      rw [xcells_get xs i 2 hi (by decide)] at this
      simpa [RM.cells] using this
theorem infoMode : (Try.prog.info? 71).map (fun i => (i.zero, i.size, i.bytes)) = some (some (.agg #[.slice none 0 0, .slice none 0 0, .slice none 0 0]), 3, 72) := by kernel_rfl
/-- 'append(l, x)' of modes, l the call's own -/
theorem wpList_pushX {w : World} {ops : Array Oper} {rest : List Oper} {o : Oper} {a : Act} {Q : Exit → Act → World → Prop} (hgd : o.guard = none) (s x : Operand)
    (ho : o.op = .call { callee := .builtin .append, args := #[s, x], argTypes := #[23, 23] })
    (base : Nat) (v : Value) (xs : List RM) (hs : a.eval s = v) (hown : OwnX w base v xs) (B : Nat) (y : RM) (hx : a.eval x = .slice (some ⟨B, 0, none⟩) 1 1) (hB : Box w B 71 #[y.dv, y.ev, y.nv])
    (h1 : ∀ u ∈ y.cells, u.oneCell' = true) (hy : y.In w) (hyf : ∀ k, y.at k → base ≤ k ∧ k < w.heap.size ∧ v.ownBlock ≠ some k) (hn : xs.length + 1 ≤ 1000) (hbase : base ≤ w.heap.size)
    (h : ∀ v' w', OwnX w' base v' (xs ++ [y]) → w.grownBy w' v.ownBlock → wpList Try.prog ops Q rest (a.put o.dst v') w') : wpList Try.prog ops Q (o :: rest) a w := by
  obtain ⟨i, hi, hz0, hz1, hz2⟩ := info_parts infoMode
  refine wpList_append_own_at w hgd s x 23 ho base 71 i _ 3 72 Try.underlying23 hi hz0 hz1 hz2 rfl (by decide) v xs.length (xcells xs) hs hown.row ⟨B, 0, none⟩ 1 1 y.cells hx rfl (fun j u hj => ?_) h1 (by unfold maxLen; omega) (by omega) hbase ?_
  · have hc := hB.cell j u (by simpa [RM.cells] using hj)
    by_cases hj0 : j = 0
    · subst hj0; simpa [Addr.add] using hc
    · simpa [Addr.add, hj0] using hc
  · intro v' w' hown' hg _ hat
    have hall : ∀ u ∈ xs ++ [y], u.In w ∧ ∀ k, u.at k → base ≤ k ∧ k < w.heap.size ∧ v.ownBlock ≠ some k := fun u hu => by
      rw [List.mem_append, List.mem_singleton] at hu
      rcases hu with hu | rfl
      · exact ⟨hown.isIn u hu, hown.far u hu⟩
      · exact ⟨hy, hyf⟩
    refine h v' w' ⟨?_, fun u hu => (hall u hu).1.blocks fun k hat' hlt => hg.block k hlt (fun e => ((hall u hu).2 k hat').2.2 e.symm), fun u hu k hat' => ?_⟩ hg
    · rw [List.length_append]
      have hcs : xcells (xs ++ [y]) = xcells xs ++ y.cells := by simp [xcells]
      rw [hcs]
      exact hown'
    · obtain ⟨h3, h4, h5⟩ := (hall u hu).2 k hat'
      refine ⟨h3, Nat.lt_of_lt_of_le h4 hg.size, ?_⟩
      rcases hat with he | he
      · rw [he]; exact h5
      · rw [he]
        intro e
        simp only [Option.some.injEq] at e
        omega
theorem infoI9 : (Try.prog.info? 3).map (fun i => (i.zero, i.size, i.bytes)) = some (some (.int .i64 0), 1, 8) := by kernel_rfl
/-- 'append(l, n)', l the call's own, as a step of a region that draws its order -/
theorem step_pushI {w : World} {ops : Array Oper} {o : Oper} {a : Act} {K : Act → World → Prop} {Q : Exit → Act → World → Prop} {E : Prop} (hgd : o.guard = none) (s x : Operand)
    (ho : o.op = .call { callee := .builtin .append, args := #[s, x], argTypes := #[34, 34] })
    (base : Nat) (v : Value) (xs : List Value) (hs : a.eval s = v) (hown : Own w base 3 v xs) (B : Nat) (u : Int) (hx : a.eval x = .slice (some ⟨B, 0, none⟩) 1 1) (hB : Box w B 3 #[.int .i64 u]) (hn : xs.length + 1 ≤ 1000) (hbase : base ≤ w.heap.size)
    (h : ∀ v' w', Own w' base 3 v' (xs ++ [.int .i64 u]) → Below base w w' → K (a.put o.dst v') w') :
    if Region.wanted o (yielded ops a.tmps) = true then Oper.wp Try.prog o a w K Q else E := by
  have hw : Region.wanted o (yielded ops a.tmps) = true := by simp [Region.wanted, hgd]
  rw [if_pos hw]
  obtain ⟨i, hi, hz0, hz1, hz2⟩ := info_parts infoI9
  obtain ⟨v', w', hr, hown', hg, -, hat⟩ := run_append_own_at (P := Try.prog) w base 34 o.type 3 i _ 1 8 Try.underlying34 hi hz0 hz1 hz2 rfl (by decide) v xs.length xs hown ⟨B, 0, none⟩ 1 1 [.int .i64 u] rfl (fun j y hj => by
      match j, hj with
      | 0, hj =>
        simp at hj
        subst hj
        simpa [Addr.add] using hB.cell 0 _ rfl) (by simp [Value.oneCell']) (by unfold maxLen; omega) (by omega) hbase
  unfold Oper.wp execOp
  simp only [ho, resolve, invoke, builtin, Sem.run_bind, Sem.run_pure, Result.andThen_ok, List.map_toArray, List.map_cons, List.map_nil, hs, hx, hr]
  refine h v' w' ?_ ((Below.refl base w).grown hg hbase fun k hk => (hown.lt k hk).1)
  unfold Own; rw [List.length_append]; exact hown'
/-- a literal of truths -/
theorem Box.bools {w : World} {g : Nat} {bs : List Bool} (h : Box w g 4 (bs.map Value.bool).toArray) (hl : bs.length ≤ 1000) : Bools w (.slice (some ⟨g, 0, none⟩) bs.length bs.length) bs := by
  refine ⟨some ⟨g, 0, none⟩, bs.length, rfl, Nat.le_refl _, by omega, ?_⟩
  have := h.rowU
  simpa using this
end Go.Proofs.Ytmjodcackmjllaa
