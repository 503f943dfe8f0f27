/- Lists of signals: one that lies there, and one that the call itself lets grow. -/
import Derived.Test.YtcophhdlcjemeaaT6
import Derived.Test.YtcophhdlcjemeaaT5
import Derived.Maps.AppendAt
namespace Go.Proofs.Ytcophhdlcjemeaa
open Go.RowKit
set_option linter.unusedVariables false
set_option linter.unusedSimpArgs false
def RSig.cells (s : RSig) : List Value := [.int .i64 s.fr, .int .i64 s.f, .int .i64 s.t, .int .i64 s.lv, .int .i64 s.b.n, .slice s.b.a s.b.len s.b.cap]
def RSig.zero : RSig := ⟨0, 0, 0, 0, ⟨0, none, 0, 0, []⟩⟩
/-- a list of signals -/
structure RSs (w : World) (a : Option Addr) (n cap : Nat) (xs : List RSig) : Prop where
  len : xs.length = n
  hcap : n ≤ cap
  hmax : cap ≤ 9223372036854775807
  isIn : ∀ x ∈ xs, x.b.In w
  cell : ∀ i (h : i < xs.length), ∃ b off, a = some ⟨b, off, none⟩ ∧ ∀ j v, xs[i].cells[j]? = some v → w.cell? ⟨b, off + i * 6 + j, none⟩ = some v
theorem RSs.keeps {w w' : World} {a : Option Addr} {n cap : Nat} {xs : List RSig} (h : RSs w a n cap xs) (hk : Keeps w w') : RSs w' a n cap xs :=
  ⟨h.len, h.hcap, h.hmax, fun x hx => (h.isIn x hx).keeps hk, fun i hi => by
    obtain ⟨b, off, h1, h2⟩ := h.cell i hi
    exact ⟨b, off, h1, fun j v hj => hk.later (h2 j v hj)⟩⟩
theorem RSs.addr {w : World} {a : Option Addr} {n cap : Nat} {xs : List RSig} (h : RSs w a n cap xs) (h0 : 0 < xs.length) : ∃ b off, a = some ⟨b, off, none⟩ ∧
    ∀ i (hi : i < xs.length), ∀ j v, xs[i].cells[j]? = some v → w.cell? ⟨b, off + i * 6 + j, none⟩ = some v := by
  obtain ⟨b, off, hab, -⟩ := h.cell 0 h0
  refine ⟨b, off, hab, fun i hi => ?_⟩
  obtain ⟨b', off', hab', h1⟩ := h.cell i hi
  rw [hab] at hab'
  simp only [Option.some.injEq, Addr.mk.injEq] at hab'
  obtain ⟨rfl, rfl, _⟩ := hab'
  exact h1
theorem RSs.take {w : World} {a : Option Addr} {n cap : Nat} {xs : List RSig} (h : RSs w a n cap xs) (k : Nat) (hk : k ≤ n) : RSs w a k cap (xs.take k) := by
  have hl := h.len
  have hc := h.hcap
  refine ⟨by simp; omega, by omega, h.hmax, fun x hx => h.isIn x (List.mem_of_mem_take hx), fun i hi => ?_⟩
  have hi' : i < xs.length := by simp at hi; omega
  obtain ⟨b, off, h1, h2⟩ := h.cell i hi'
  exact ⟨b, off, h1, by simpa using h2⟩
def cellsOf (xs : List RSig) : List Value := xs.flatMap RSig.cells
theorem cellsOf_length : ∀ xs : List RSig, (cellsOf xs).length = xs.length * 6
  | [] => rfl
  | x :: xs => by
    have := cellsOf_length xs
    unfold cellsOf at *
    simp only [List.flatMap_cons, List.length_append, List.length_cons, this]
    simp [RSig.cells]; omega
theorem cellsOf_get : ∀ (xs : List RSig) (i j : Nat) (hi : i < xs.length), j < 6 → (cellsOf xs)[i * 6 + j]? = xs[i].cells[j]?
  | x :: xs, 0, j, hi, hj => by
    unfold cellsOf
    simp only [List.flatMap_cons, Nat.zero_mul, Nat.zero_add, List.getElem_cons_zero]
    rw [List.getElem?_append_left (by simp [RSig.cells]; omega)]
  | x :: xs, i + 1, j, hi, hj => by
    have := cellsOf_get xs i j (by simpa using hi) hj
    unfold cellsOf at *
    simp only [List.flatMap_cons, List.getElem_cons_succ]
    rw [List.getElem?_append_right (by simp [RSig.cells]; omega), ← this]
    congr 1
    simp [RSig.cells]; omega
theorem RB.In.grown {x : RB} {w w' : World} {row : Option Nat} (h : x.In w) (hg : w.grownBy w' row) (hf : 0 < x.len → ∀ a, x.a = some a → row ≠ some a.block) : x.In w' := by
  refine ⟨h.n1, h.n2, h.cap, h.max, h.byte, h.row.1, fun i hi => ?_⟩
  obtain ⟨b, off, hab, hc⟩ := h.row.2 i hi
  refine ⟨b, off, hab, ?_⟩
  rw [World.cell?_of_block (a := ⟨b, off + i, none⟩) (hg.block b (World.block_lt_of_cell? _ _ hc) fun e => hf (by omega) _ hab e.symm)]
  exact hc
theorem RB.In.blk {x : RB} {w : World} (h : x.In w) (h0 : 0 < x.len) (a : Addr) (ha : x.a = some a) : a.block < w.heap.size := by
  obtain ⟨b, off, hab, hc⟩ := h.row.2 0 h0
  rw [hab] at ha
  cases ha
  exact World.block_lt_of_cell? _ _ hc
/-- a list of signals that the call itself lets grow -/
structure OwnS (w : World) (base : Nat) (v : Value) (xs : List RSig) : Prop where
  row : w.ownsRow base 73 6 v xs.length (cellsOf xs)
  isIn : ∀ x ∈ xs, x.b.In w
  far : ∀ x ∈ xs, 0 < x.b.len → ∀ a, x.b.a = some a → v.ownBlock ≠ some a.block
theorem OwnS.nil (w : World) (base : Nat) : OwnS w base (.slice none 0 0) [] := ⟨World.ownsRow_nil _ _ _ _, fun x hx => (by cases hx), fun x hx => by cases hx⟩
theorem OwnS.lt {w : World} {base : Nat} {v : Value} {xs : List RSig} (h : OwnS w base v xs) : ∀ k, v.ownBlock = some k → base ≤ k ∧ k < w.heap.size := World.ownsRow.lt h.row
theorem OwnS.keeps {w w' : World} {base : Nat} {v : Value} {xs : List RSig} (h : OwnS w base v xs) (hk : Keeps w w') : OwnS w' base v xs := by
  refine ⟨⟨h.row.1, ?_⟩, fun x hx => (h.isIn x hx).keeps hk, h.far⟩
  rcases h.row.2 with hn | ⟨g, cap, cur, rfl, hbg, hg, rest⟩
  · exact .inl hn
  · exact .inr ⟨g, cap, cur, rfl, hbg, by rw [hk.block g (h.lt g rfl).2]; exact hg, rest⟩
theorem OwnS.shape {w : World} {base : Nat} {v : Value} {xs : List RSig} (h : OwnS w base v xs) :
    ∃ a cap, v = .slice a xs.length cap ∧ RSs w a xs.length cap xs := by
  have h' := h.row
  rcases h.row.2 with ⟨hv, hn⟩ | ⟨g, cap, cur, hv, hbg, hg, hn, hm, hs, ht⟩
  · obtain rfl := List.eq_nil_of_length_eq_zero hn
    exact ⟨none, 0, hv, rfl, Nat.le_refl _, by decide, fun x hx => (by cases hx), fun i hi => absurd hi (by simp)⟩
  · refine ⟨_, cap, hv, rfl, hn, by unfold maxLen at hm; omega, h.isIn, fun i hi => ⟨g, 0, rfl, fun j u hj => ?_⟩⟩
    subst hv
    have hj6 : j < 6 := by
      have := (List.getElem?_eq_some_iff.1 hj).1
      simpa [RSig.cells] using this
    have := World.ownsRow.cellAt h' (i * 6 + j) (by omega)
    rw [cellsOf_get xs i j hi hj6, hj] at this
    rw [show 0 + i * 6 + j = i * 6 + j by omega]
    exact this
theorem infoSig : (Try.prog.info? 73).map (fun i => (i.zero, i.size, i.bytes)) = some (some (.agg #[.int .i64 0, .int .i64 0, .int .i64 0, .int .i64 0, .int .i64 0, .slice none 0 0]), 6, 64) := by kernel_rfl
/-- 'l = append(l, x)', of signals -/
theorem wpList_pushS {w : World} {ops : Array Oper} {rest : List Oper} {o : Oper} {a : Act} {Q : Exit → Act → World → Prop} (hgd : o.guard = none) (s x : Operand) (t : TypeId)
    (ho : o.op = .call { callee := .builtin .append, args := #[s, x], argTypes := #[t, t] }) (bytes : Nat) (z : Value) (ht : Try.prog.underlying t = some (.slice 73))
    (hinfo : (Try.prog.info? 73).map (fun i => (i.zero, i.size, i.bytes)) = some (some z, 6, bytes)) (hz : z.cells.size = 6)
    (base : Nat) (v : Value) (xs : List RSig) (hs : a.eval s = v) (hown : OwnS w base v xs) (ad : Addr) (y : RSig) (hx : a.eval x = .slice (some ad) 1 1) (hc : ∀ j u, y.cells[j]? = some u → w.cell? (ad.add j) = some u)
    (hy : y.b.In w) (hyf : 0 < y.b.len → ∀ a, y.b.a = some a → v.ownBlock ≠ some a.block)
    (hlen : (xs.length + 1) * bytes ≤ 140737488355328) (h63 : xs.length + 1 ≤ 9223372036854775807) (hbase : base ≤ w.heap.size)
    (h : ∀ v' w', OwnS w' base v' (xs ++ [y]) → w.grownBy w' v.ownBlock → (v'.ownBlock = v.ownBlock ∨ v'.ownBlock = some w.heap.size) → wpList Try.prog ops Q rest (a.put o.dst v') w') : wpList Try.prog ops Q (o :: rest) a w := by
  obtain ⟨i, hi, hz0, hz1, hz2⟩ := info_parts hinfo
  refine wpList_append_own_at w hgd s x t ho base 73 i z 6 bytes ht hi hz0 hz1 hz2 hz (by decide) v xs.length (cellsOf xs) hs hown.row ad 1 1 y.cells hx rfl hc (fun u hu => ?_) (by unfold maxLen; omega) hlen hbase ?_
  · simp only [RSig.cells, List.mem_cons, List.not_mem_nil, or_false] at hu
    rcases hu with rfl | rfl | rfl | rfl | rfl | rfl <;> rfl
  · intro v' w' hown' hg _ hat
    refine h v' w' ⟨?_, fun u hu => ?_, fun u hu h0 b hb => ?_⟩ hg hat
    · rw [List.length_append]
      have hcs : cellsOf (xs ++ [y]) = cellsOf xs ++ y.cells := by simp [cellsOf]
      rw [hcs]
      exact hown'
    · rw [List.mem_append, List.mem_singleton] at hu
      rcases hu with hu | rfl
      · exact (hown.isIn u hu).grown hg (hown.far u hu)
      · exact hy.grown hg hyf
    · have hold : v.ownBlock ≠ some b.block ∧ b.block < w.heap.size := by
        rw [List.mem_append, List.mem_singleton] at hu
        rcases hu with hu | rfl
        · exact ⟨hown.far u hu h0 b hb, (hown.isIn u hu).blk h0 b hb⟩
        · exact ⟨hyf h0 b hb, hy.blk h0 b hb⟩
      rcases hat with he | he
      · rw [he]; exact hold.1
      · rw [he]
        intro e
        simp only [Option.some.injEq] at e
        omega
end Go.Proofs.Ytcophhdlcjemeaa
