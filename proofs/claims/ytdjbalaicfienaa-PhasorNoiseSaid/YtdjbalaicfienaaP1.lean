/- Samples in memory; whole numbers of the plane as floats. -/
import Derived.Test.YtdjbalaicfienaaFl
import Derived.Test.YtdjbalaicfienaaBase2
import Derived.Test.YtdjbalaicfienaaW1
import Derived.Maps.AppendAt
import Derived.Laws.OwnMore
namespace Go.Proofs.Ytdjbalaicfienaa
open Go.RowKit
set_option linter.unusedVariables false
set_option linter.unusedSimpArgs false
/-- a sample -/
structure Smp where
  i : Int
  q : Int
deriving DecidableEq
def Smp.zero : Smp := ⟨0, 0⟩
abbrev Smp.val (s : Smp) : Value := .agg #[.int .i64 s.i, .int .i64 s.q]
def Smp.cells (s : Smp) : List Value := [.int .i64 s.i, .int .i64 s.q]
/-- a list of samples -/
structure SRow (w : World) (a : Option Addr) (n cap : Nat) (xs : List Smp) : Prop where
  len : xs.length = n
  hcap : n ≤ cap
  hmax : cap ≤ 9223372036854775807
  cell : ∀ i (h : i < xs.length), ∃ b off, a = some ⟨b, off, none⟩ ∧ w.cell? ⟨b, off + i * 2, none⟩ = some (.int .i64 xs[i].i) ∧ w.cell? ⟨b, off + i * 2 + 1, none⟩ = some (.int .i64 xs[i].q)
theorem SRow.keeps {w w' : World} {a : Option Addr} {n cap : Nat} {xs : List Smp} (h : SRow w a n cap xs) (hk : Keeps w w') : SRow w' a n cap xs :=
  ⟨h.len, h.hcap, h.hmax, fun i hi => by
    obtain ⟨b, off, h1, h2, h3⟩ := h.cell i hi
    exact ⟨b, off, h1, hk.later h2, hk.later h3⟩⟩
theorem SRow.nil (w : World) : SRow w none 0 0 [] := ⟨rfl, Nat.le_refl _, by decide, fun i hi => absurd hi (by simp)⟩
theorem SRow.addr {w : World} {a : Option Addr} {n cap : Nat} {xs : List Smp} (h : SRow w a n cap xs) (h0 : 0 < n) : ∃ b off, a = some ⟨b, off, none⟩ ∧ b < w.heap.size ∧
    ∀ i (hi : i < xs.length), w.cell? ⟨b, off + i * 2, none⟩ = some (.int .i64 xs[i].i) ∧ w.cell? ⟨b, off + i * 2 + 1, none⟩ = some (.int .i64 xs[i].q) := by
  have hl := h.len
  obtain ⟨b, off, hab, hc, -⟩ := h.cell 0 (by omega)
  refine ⟨b, off, hab, World.block_lt_of_cell? _ _ hc, fun i hi => ?_⟩
  obtain ⟨b', off', hab', h1, h2⟩ := h.cell i hi
  rw [hab] at hab'
  simp only [Option.some.injEq, Addr.mk.injEq] at hab'
  obtain ⟨rfl, rfl, _⟩ := hab'
  exact ⟨h1, h2⟩
theorem SRow.grown {w w' : World} {a : Option Addr} {n cap : Nat} {xs : List Smp} {row : Option Nat} (h : SRow w a n cap xs) (hg : w.grownBy w' row) (hf : 0 < n → ∀ x, a = some x → row ≠ some x.block) : SRow w' a n cap xs := by
  refine ⟨h.len, h.hcap, h.hmax, fun i hi => ?_⟩
  obtain ⟨b, off, hab, h1, h2⟩ := h.cell i hi
  have hl := h.len
  have hb : w'.heap[b]? = w.heap[b]? := hg.block b (World.block_lt_of_cell? _ _ h1) fun e => hf (by omega) _ hab e.symm
  exact ⟨b, off, hab, (World.cell?_of_block (a := ⟨b, off + i * 2, none⟩) hb).trans h1, (World.cell?_of_block (a := ⟨b, off + i * 2 + 1, none⟩) hb).trans h2⟩
theorem SRow.keepsBut {w w' : World} {a : Option Addr} {n cap g : Nat} {xs : List Smp} (h : SRow w a n cap xs) (hg : KeepsBut g w w') (hf : 0 < n → ∀ x, a = some x → x.block ≠ g) : SRow w' a n cap xs := by
  refine ⟨h.len, h.hcap, h.hmax, fun i hi => ?_⟩
  obtain ⟨b, off, hab, h1, h2⟩ := h.cell i hi
  have hl := h.len
  have hb : w'.heap[b]? = w.heap[b]? := hg.block b (World.block_lt_of_cell? _ _ h1) (hf (by omega) _ hab)
  exact ⟨b, off, hab, (World.cell?_of_block (a := ⟨b, off + i * 2, none⟩) hb).trans h1, (World.cell?_of_block (a := ⟨b, off + i * 2 + 1, none⟩) hb).trans h2⟩
def sCells (xs : List Smp) : List Value := xs.flatMap Smp.cells
theorem sCells_length : ∀ xs : List Smp, (sCells xs).length = xs.length * 2
  | [] => rfl
  | x :: xs => by
    have := sCells_length xs
    unfold sCells at *
    simp only [List.flatMap_cons, List.length_append, List.length_cons, this]
    simp [Smp.cells]; omega
theorem sCells_get : ∀ (xs : List Smp) (i j : Nat) (hi : i < xs.length), j < 2 → (sCells xs)[i * 2 + j]? = xs[i].cells[j]?
  | x :: xs, 0, j, hi, hj => by
    unfold sCells
    simp only [List.flatMap_cons, Nat.zero_mul, Nat.zero_add, List.getElem_cons_zero]
    rw [List.getElem?_append_left (by simp [Smp.cells]; omega)]
  | x :: xs, i + 1, j, hi, hj => by
    have := sCells_get xs i j (by simpa using hi) hj
    unfold sCells at *
    simp only [List.flatMap_cons, List.getElem_cons_succ]
    rw [List.getElem?_append_right (by simp [Smp.cells]; omega), ← this]
    congr 1
    simp [Smp.cells]; omega
theorem sCells_app (xs ys : List Smp) : sCells (xs ++ ys) = sCells xs ++ sCells ys := by simp [sCells]
theorem sCells_one (xs : List Smp) : ∀ u ∈ sCells xs, u.oneCell' = true := by
  intro u hu
  simp only [sCells, List.mem_flatMap, Smp.cells, List.mem_cons, List.not_mem_nil, or_false] at hu
  obtain ⟨x, -, rfl | rfl⟩ := hu <;> rfl
/-- a list of samples that the call itself lets grow -/
def OwnP (w : World) (base : Nat) (v : Value) (xs : List Smp) : Prop := w.ownsRow base 63 2 v xs.length (sCells xs)
theorem OwnP.nil (w : World) (base : Nat) : OwnP w base (.slice none 0 0) [] := World.ownsRow_nil _ _ _ _
theorem OwnP.lt {w : World} {base : Nat} {v : Value} {xs : List Smp} (h : OwnP w base v xs) : ∀ k, v.ownBlock = some k → base ≤ k ∧ k < w.heap.size := World.ownsRow.lt h
theorem OwnP.block {w w' : World} {base : Nat} {v : Value} {xs : List Smp} (h : OwnP w base v xs) (hb : ∀ k, v.ownBlock = some k → w'.heap[k]? = w.heap[k]?) : OwnP w' base v xs := by
  refine ⟨h.1, ?_⟩
  rcases h.2 with hn | ⟨g, cap, cur, rfl, hbg, hg, rest⟩
  · exact .inl hn
  · exact .inr ⟨g, cap, cur, rfl, hbg, by rw [hb g rfl]; exact hg, rest⟩
theorem OwnP.keeps {w w' : World} {base : Nat} {v : Value} {xs : List Smp} (h : OwnP w base v xs) (hk : Keeps w w') : OwnP w' base v xs :=
  h.block fun k hk' => hk.block k (h.lt k hk').2
theorem OwnP.keepsBut {w w' : World} {base g : Nat} {v : Value} {xs : List Smp} (h : OwnP w base v xs) (hk : KeepsBut g w w') (hg : v.ownBlock ≠ some g) : OwnP w' base v xs :=
  h.block fun k hk' => hk.block k (h.lt k hk').2 (by rintro rfl; exact hg hk')
theorem OwnP.mono {w : World} {base base' : Nat} {v : Value} {xs : List Smp} (h : OwnP w base v xs) (hb : base' ≤ base) : OwnP w base' v xs := by
  refine ⟨h.1, ?_⟩
  rcases h.2 with hn | ⟨g, cap, cur, hv, hbg, rest⟩
  · exact .inl hn
  · exact .inr ⟨g, cap, cur, hv, Nat.le_trans hb hbg, rest⟩
theorem OwnP.shape {w : World} {base : Nat} {v : Value} {xs : List Smp} (h : OwnP w base v xs) :
    ∃ a cap, v = .slice a xs.length cap ∧ SRow w a xs.length cap xs ∧ (∀ x, a = some x → base ≤ x.block ∧ x.block < w.heap.size ∧ v.ownBlock = some x.block ∧ ∀ j, w.frozen? ⟨x.block, j, none⟩ = false) := by
  have h' := h
  rcases h.2 with ⟨hv, hn⟩ | ⟨g, cap, cur, hv, hbg, hg, hn, hm, hs, ht⟩
  · obtain rfl := List.eq_nil_of_length_eq_zero hn
    exact ⟨none, 0, hv, SRow.nil w, fun x hx => by cases hx⟩
  · refine ⟨_, cap, hv, ⟨rfl, hn, by unfold maxLen at hm; omega, fun i hi => ⟨g, 0, rfl, ?_, ?_⟩⟩, fun x hx => ?_⟩
    · subst hv
      have := World.ownsRow.cellAt h' (i * 2) (by omega)
      have e := sCells_get xs i 0 hi (by decide)
      rw [Nat.add_zero] at e
      rw [e] at this
      rw [show 0 + i * 2 = i * 2 by omega]
      exact this
    · subst hv
      have := World.ownsRow.cellAt h' (i * 2 + 1) (by omega)
      have e := sCells_get xs i 1 hi (by decide)
      rw [e] at this
      rw [show 0 + i * 2 + 1 = i * 2 + 1 by omega]
      exact this
    · cases hx
      subst hv
      exact ⟨hbg, (h.lt g rfl).2, rfl, fun j => by simp [World.frozen?, hg]⟩
theorem infoSmp : (Try.prog.info? 63).map (fun i => (i.zero, i.size, i.bytes)) = some (some (.agg #[.int .i64 0, .int .i64 0]), 2, 16) := by kernel_rfl
/-- what grows: the list's own block, and new ones -/
structure Gr (w w' : World) (v v' : Value) : Prop where
  os : w'.os = w.os
  tape : w'.tape = w.tape
  output : w'.output = w.output
  size : w.heap.size ≤ w'.heap.size
  block : ∀ k, k < w.heap.size → v.ownBlock ≠ some k → w'.heap[k]? = w.heap[k]?
  own : v'.ownBlock = v.ownBlock ∨ ∃ k, v'.ownBlock = some k ∧ w.heap.size ≤ k
theorem Gr.refl (w : World) (v : Value) : Gr w w v v := ⟨rfl, rfl, rfl, Nat.le_refl _, fun _ _ _ => rfl, .inl rfl⟩
theorem Gr.trans {a b c : World} {u v x : Value} (h : Gr a b u v) (k : Gr b c v x) : Gr a c u x := by
  refine ⟨k.os.trans h.os, k.tape.trans h.tape, k.output.trans h.output, Nat.le_trans h.size k.size, fun i hi hu => ?_, ?_⟩
  · refine (k.block i (Nat.lt_of_lt_of_le hi h.size) ?_).trans (h.block i hi hu)
    intro e
    rcases h.own with h1 | ⟨j, h1, h2⟩
    · rw [h1] at e; exact hu e
    · rw [h1] at e
      simp only [Option.some.injEq] at e
      omega
  · rcases k.own with k1 | ⟨j, k1, k2⟩
    · rcases h.own with h1 | ⟨i, h1, h2⟩
      · exact .inl (k1.trans h1)
      · exact .inr ⟨i, k1.trans h1, h2⟩
    · exact .inr ⟨j, k1, Nat.le_trans h.size k2⟩
theorem Keeps.gr {a b : World} (h : Keeps a b) (v : Value) : Gr a b v v := ⟨Below.os h, Below.tape h, Below.output h, h.size, fun k hk _ => h.block k hk, .inl rfl⟩
theorem Gr.grown {a b : World} {v v' : Value} (hg : a.grownBy b v.ownBlock) (hv : v'.ownBlock = v.ownBlock ∨ v'.ownBlock = some a.heap.size) : Gr a b v v' :=
  ⟨hg.os, hg.tape, hg.output, hg.size, fun k hk hu => hg.block k hk (fun e => hu e.symm), hv.imp id fun e => ⟨_, e, Nat.le_refl _⟩⟩
theorem Gr.keeps {a w w' : World} {v v' : Value} (h : Gr w w' v v') (hk : Keeps a w) (hv : ∀ k, v.ownBlock = some k → a.heap.size ≤ k) : Keeps a w' :=
  ⟨h.os.trans (Below.os hk), h.tape.trans (Below.tape hk), h.output.trans (Below.output hk), Nat.le_trans hk.size h.size, fun k hk' => (h.block k (Nat.lt_of_lt_of_le hk' hk.size) (fun e => by have := hv k e; omega)).trans (hk.block k hk')⟩
theorem Box.gr {w w' : World} {b t : Nat} {c : Array Value} {v v' : Value} (h : Box w b t c) (hg : Gr w w' v v') (hn : v.ownBlock ≠ some b) : Box w' b t c := (hg.block b h.lt hn).trans h
theorem SRow.gr {w w' : World} {a : Option Addr} {n cap : Nat} {xs : List Smp} {v v' : Value} (h : SRow w a n cap xs) (hg : Gr w w' v v') (hf : 0 < n → ∀ x, a = some x → v.ownBlock ≠ some x.block) : SRow w' a n cap xs := by
  refine ⟨h.len, h.hcap, h.hmax, fun i hi => ?_⟩
  obtain ⟨b, off, hab, h1, h2⟩ := h.cell i hi
  have hl := h.len
  have hb : w'.heap[b]? = w.heap[b]? := hg.block b (World.block_lt_of_cell? _ _ h1) (hf (by omega) _ hab)
  exact ⟨b, off, hab, (World.cell?_of_block (a := ⟨b, off + i * 2, none⟩) hb).trans h1, (World.cell?_of_block (a := ⟨b, off + i * 2 + 1, none⟩) hb).trans h2⟩
theorem Row.gr {w w' : World} {k : IntKind} {a : Option Addr} {len : Nat} {l : List Nat} {v v' : Value} (h : Row w k a len l) (hg : Gr w w' v v') (hf : 0 < len → ∀ x, a = some x → v.ownBlock ≠ some x.block) : Row w' k a len l := by
  refine ⟨h.1, fun i hi => ?_⟩
  obtain ⟨b, off, hab, hc⟩ := h.2 i hi
  exact ⟨b, off, hab, (World.cell?_of_block (a := ⟨b, off + i, none⟩) (hg.block b (World.block_lt_of_cell? _ _ hc) (hf (by omega) _ hab))).trans hc⟩
theorem RB.In.gr {x : RB} {w w' : World} {v v' : Value} (h : x.In w) (hg : Gr w w' v v') (hf : 0 < x.len → ∀ a, x.a = some a → v.ownBlock ≠ some a.block) : x.In w' := ⟨h.n1, h.n2, h.cap, h.max, h.byte, h.row.gr hg hf⟩
theorem RB.Is.gr {x : RB} {w w' : World} {bs : List Bool} {v v' : Value} (h : x.Is w bs) (hg : Gr w w' v v') (hf : 0 < x.len → ∀ a, x.a = some a → v.ownBlock ≠ some a.block) : x.Is w' bs := ⟨h.isIn.gr hg hf, h.n, h.l, h.most⟩
/-- 'l = append(l, xs...)', of samples -/
theorem wpList_joinP {w : World} {ops : Array Oper} {rest : List Oper} {o : Oper} {a : Act} {Q : Exit → Act → World → Prop} (hgd : o.guard = none) (s x : Operand)
    (ho : o.op = .call { callee := .builtin .append, args := #[s, x], argTypes := #[52, 52] })
    (base : Nat) (v : Value) (xs : List Smp) (hs : a.eval s = v) (hown : OwnP w base v xs) (ad : Option Addr) (m c : Nat) (ys : List Smp) (hx : a.eval x = .slice ad m c) (hrow : SRow w ad m c ys)
    (hlen : xs.length + m ≤ 1000000) (hbase : base ≤ w.heap.size)
    (h : ∀ v' w', OwnP w' base v' (xs ++ ys) → Gr w w' v v' → wpList Try.prog ops Q rest (a.put o.dst v') w') : wpList Try.prog ops Q (o :: rest) a w := by
  obtain ⟨i, hi, hz0, hz1, hz2⟩ := info_parts infoSmp
  have hl := hrow.len
  have key : ∀ (y : Addr), ad = some y → wpList Try.prog ops Q (o :: rest) a w := by
    intro y hy
    subst hy
    refine wpList_append_own_at w hgd s x 52 ho base 63 i _ 2 16 Try.underlying52 hi hz0 hz1 hz2 rfl (by decide) v xs.length (sCells xs) hs hown y m c (sCells ys) hx (by rw [sCells_length, hl]) (fun j u hj => ?_) (sCells_one ys) (by unfold maxLen; omega) (by omega) hbase ?_
    · have hjl : j < m * 2 := by
        have := (List.getElem?_eq_some_iff.1 hj).1
        rw [sCells_length, hl] at this; exact this
      obtain ⟨b, off, hab, hc⟩ : ∃ b off, y = ⟨b, off, none⟩ ∧ w.cell? ⟨b, off + j, none⟩ = some u := by
        obtain ⟨b, off, hab, hc0, hc1⟩ := hrow.cell (j / 2) (by omega)
        cases hab
        refine ⟨b, off, rfl, ?_⟩
        rcases Nat.mod_two_eq_zero_or_one j with h0 | h0
        · have e : j = j / 2 * 2 + 0 := by omega
          rw [e, sCells_get ys (j / 2) 0 (by omega) (by decide)] at hj
          rw [e, Nat.add_zero, hc0, ← hj]; rfl
        · have e : j = j / 2 * 2 + 1 := by omega
          rw [e, sCells_get ys (j / 2) 1 (by omega) (by decide)] at hj
          rw [e, ← Nat.add_assoc, hc1, ← hj]; rfl
      subst hab
      by_cases hj0 : j = 0
      · subst hj0; simpa [Addr.add] using hc
      · simpa [Addr.add, hj0] using hc
    · intro v' w' hown' hg _ hat
      refine h v' w' ?_ (Gr.grown hg hat)
      unfold OwnP
      rw [List.length_append, hl, sCells_app]; exact hown'
  cases ad with
  | some y => exact key y rfl
  | none =>
    have h0 : m = 0 := by
      rcases Nat.eq_zero_or_pos m with h0 | h0
      · exact h0
      · obtain ⟨b, off, hab, -⟩ := hrow.cell 0 (by omega)
        cases hab
    subst h0
    obtain rfl : ys = [] := List.eq_nil_of_length_eq_zero hl
    refine wpList_plain hgd fun K hK => ?_
    have hrun : (Builtin.append_ #[52, 52] o.type #[v, .slice none 0 c]).run Try.prog w = .ok v w := by
      rcases hown.2 with ⟨rfl, hn⟩ | ⟨g, cap, cur, rfl, _, _, hnc, _⟩
      · simp [Builtin.append_, run_underlying Try.underlying52, sizeOf, typeInfo, hi, Builtin.lenOf, Builtin.firstCells]
      · simp [Builtin.append_, run_underlying Try.underlying52, sizeOf, typeInfo, hi, Builtin.lenOf, Builtin.firstCells, hnc, storeCells]
    unfold Oper.wp
    simp [execOp, ho, resolve, invoke, builtin, hs, hx, hrun, Result.andThen]
    refine hK _ _ (h v w (by simpa using hown) (Gr.refl _ _))
/-- a sample in a box of its own -/
theorem Box.smp {w : World} {b : Nat} {s : Smp} (h : Box w b 63 #[.int .i64 s.i, .int .i64 s.q]) : SRow w (some ⟨b, 0, none⟩) 1 1 [s] := by
  refine ⟨rfl, Nat.le_refl _, by decide, fun i hi => ?_⟩
  have : i = 0 := by simpa using hi
  subst this
  exact ⟨b, 0, rfl, h.cell 0 _ rfl, h.cell 1 _ rfl⟩
/- floats -/
theorem FInt.one : FInt 4607182418800017408 1 := ⟨false, 4503599627370496, -52, by decide +kernel, by decide +kernel⟩
theorem FInt.mone : FInt 13830554455654793216 (-1) := ⟨true, 4503599627370496, -52, by decide +kernel, by decide +kernel⟩
theorem FInt.zero : FInt 0 0 := ⟨false, 0, -1074, by decide +kernel, by rw [show ((0 : Nat) : Int) = 0 from rfl, Int.zero_mul, Int.mul_zero, Int.zero_mul]⟩
theorem natAbs_mul_le {x u : Int} {A B : Nat} (hx : x.natAbs ≤ A) (hu : u.natAbs ≤ B) : (x * u).natAbs ≤ A * B := by
  rw [Int.natAbs_mul]; exact Nat.mul_le_mul hx hu
theorem cmul_int {a b c d : Nat} {x y u v : Int} (ha : FInt a x) (hb : FInt b y) (hc : FInt c u) (hd : FInt d v) (A B : Nat) (hx : x.natAbs ≤ A) (hy : y.natAbs ≤ A) (hu : u.natAbs ≤ B) (hv : v.natAbs ≤ B) (h : 2 * (A * B) < 2 ^ 53) :
    ∃ re im, FInt re (x * u - y * v) ∧ FInt im (x * v + y * u) ∧ ∀ (P : Program) (t : TypeId) (w : World), (binOp .mul t (.complex .f64 a b) (.complex .f64 c d)).run P w = .ok (.complex .f64 re im) w := by
  have n1 := natAbs_mul_le hx hu
  have n2 := natAbs_mul_le hy hv
  have n3 := natAbs_mul_le hx hv
  have n4 := natAbs_mul_le hy hu
  obtain ⟨ac, e1, h1⟩ := ha.mul hc (by omega)
  obtain ⟨bd, e2, h2⟩ := hb.mul hd (by omega)
  obtain ⟨re, e3, h3⟩ := h1.sub h2 (by omega)
  obtain ⟨ad, e4, h4⟩ := ha.mul hd (by omega)
  obtain ⟨bc, e5, h5⟩ := hb.mul hc (by omega)
  obtain ⟨im, e6, h6⟩ := h4.add h5 (by omega)
  exact ⟨re, im, h3, h6, fun P t w => run_complex_mul w t a b c d re im (by simp [cMulBits, e1, e2, e3, e4, e5, e6])⟩
theorem cadd_int {a b c d : Nat} {x y u v : Int} (ha : FInt a x) (hb : FInt b y) (hc : FInt c u) (hd : FInt d v) (h1 : (x + u).natAbs < 2 ^ 53) (h2 : (y + v).natAbs < 2 ^ 53) :
    ∃ re im, FInt re (x + u) ∧ FInt im (y + v) ∧ ∀ (P : Program) (t : TypeId) (w : World), (binOp .add t (.complex .f64 a b) (.complex .f64 c d)).run P w = .ok (.complex .f64 re im) w := by
  obtain ⟨re, e1, h1⟩ := ha.add hc h1
  obtain ⟨im, e2, h2⟩ := hb.add hd h2
  exact ⟨re, im, h1, h2, fun P t w => run_complex_sum w .add (.inl rfl) t .f64 a b c d re im (by simp [cSumBits, e1, e2])⟩
theorem fop_int {op : BinOp} {a b r : Nat} (h : floatBits op .f64 a b = some r) : ∀ (P : Program) (t : TypeId) (w : World), (binOp op t (.float .f64 a) (.float .f64 b)).run P w = .ok (.float .f64 r) w :=
  fun P t w => run_float_arith w op t .f64 a b r h
theorem f2i {a : Nat} {x : Int} (ha : FInt a x) (h1 : -9223372036854775808 ≤ x) (h2 : x ≤ 9223372036854775807) : ∀ w : World, (Go.convert 96 3 (.float .f64 a)).run Try.prog w = .ok (.int .i64 x) w :=
  fun w => run_convert_float_int w 96 3 .f64 .i64 a x (by kernel_rfl) (by kernel_rfl) (by
    unfold floatToIntVal
    rw [ha.toInt]
    have : IntKind.i64.min ≤ x ∧ x ≤ IntKind.i64.max := by
      simp [IntKind.min, IntKind.max, IntKind.signed, IntKind.bits]
      omega
    simp only [this, and_self, if_true])
end Go.Proofs.Ytdjbalaicfienaa
