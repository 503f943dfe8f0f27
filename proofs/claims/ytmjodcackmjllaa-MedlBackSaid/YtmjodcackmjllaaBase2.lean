/- Rows of cells that are only read, and rows that the call itself makes. No function of the program in sight. -/
import Derived.Test.YtmjodcackmjllaaBase
namespace Go.Proofs.Ytmjodcackmjllaa
open Go.RowKit
set_option linter.unusedVariables false
set_option linter.unusedSimpArgs false

theorem Keeps.below {a b c : World} {B : Nat} (h : Keeps a b) (k : Below B b c) (hB : a.heap.size ≤ B) : Keeps a c := Below.trans h (k.mono hB)
theorem Blk.put {w : World} {k : IntKind} {t g : Nat} {l : List Nat} (h : Blk w k t g l) (i n : Nat) (v : Int) (hv : v = n) : Blk (w.setCell ⟨g, i, none⟩ (.int k v)) k t g (l.set i n) := by
  subst hv; exact h.set i n
/-- a block that holds just these cells -/
def Box (w : World) (b t : Nat) (c : Array Value) : Prop := w.heap[b]? = some (.cells c t (0, 0))
theorem Box.lt {w : World} {b t : Nat} {c : Array Value} (h : Box w b t c) : b < w.heap.size := (Array.getElem?_eq_some_iff.1 h).1
theorem Box.cell {w : World} {b t : Nat} {c : Array Value} (h : Box w b t c) (i : Nat) (v : Value) (hv : c[i]? = some v) : w.cell? ⟨b, i, none⟩ = some v := by
  unfold Box at h
  simp [World.cell?, h, hv]
theorem Box.frozen {w : World} {b t : Nat} {c : Array Value} (h : Box w b t c) (i : Nat) : w.frozen? ⟨b, i, none⟩ = false := by
  unfold Box at h
  simp [World.frozen?, h]
theorem Box.keeps {w w' : World} {b t : Nat} {c : Array Value} (h : Box w b t c) (hk : Keeps w w') : Box w' b t c := (hk.block b h.lt).trans h
theorem Box.keepsBut {w w' : World} {b t g : Nat} {c : Array Value} (h : Box w b t c) (hk : KeepsBut g w w') (hg : b ≠ g) : Box w' b t c := (hk.block b h.lt hg).trans h
theorem Box.below {w w' : World} {b t B : Nat} {c : Array Value} (h : Box w b t c) (hk : Below B w w') (hb : b < B) : Box w' b t c := (hk.block b hb).trans h
theorem Box.new (w : World) (t : Nat) (c : Array Value) : Box (w.alloc (.cells c t)) w.heap.size t c := heap_alloc_new w _
theorem Box.next {w : World} {b t : Nat} {c : Array Value} (h : Box w b t c) (o : Obj) : Box (w.alloc o) b t c := h.keeps ((Keeps.refl w).alloc o)
theorem Blk.next {w : World} {k : IntKind} {t g : Nat} {l : List Nat} (h : Blk w k t g l) (o : Obj) : Blk (w.alloc o) k t g l := h.keeps ((Keeps.refl w).alloc o)
theorem Blk.below {w w' : World} {k : IntKind} {t g B : Nat} {l : List Nat} (h : Blk w k t g l) (hk : Below B w w') (hb : g < B) : Blk w' k t g l := (hk.block g hb).trans h
/-- the bytes lie in a block from B on -/
def RB.Fr (x : RB) (B : Nat) : Prop := ∀ a, x.a = some a → B ≤ a.block
theorem RB.Fr.mono {x : RB} {B B' : Nat} (h : x.Fr B) (hb : B' ≤ B) : x.Fr B' := fun a ha => Nat.le_trans hb (h a ha)
theorem RB.zero_fr (B : Nat) : RB.zero.Fr B := fun a ha => by cases ha
theorem Row.keepsBut {w w' : World} {k : IntKind} {a : Option Addr} {len : Nat} {l : List Nat} {g : Nat} (h : Row w k a len l) (hk : KeepsBut g w w') (hg : ∀ x, a = some x → x.block ≠ g) : Row w' k a len l := by
  refine ⟨h.1, fun i hi => ?_⟩
  obtain ⟨b, off, hab, hc⟩ := h.2 i hi
  exact ⟨b, off, hab, (hk.cell b _ (World.block_lt_of_cell? _ _ hc) (hg _ hab)).trans hc⟩
theorem RB.In.keepsBut {x : RB} {w w' : World} {g : Nat} (h : x.In w) (hk : KeepsBut g w w') (hg : ∀ a, x.a = some a → a.block ≠ g) : x.In w' := ⟨h.n1, h.n2, h.cap, h.max, h.byte, h.row.keepsBut hk hg⟩
theorem RB.Is.keepsBut {x : RB} {w w' : World} {g : Nat} {bs : List Bool} (h : x.Is w bs) (hk : KeepsBut g w w') (hg : ∀ a, x.a = some a → a.block ≠ g) : x.Is w' bs := ⟨h.isIn.keepsBut hk hg, h.n, h.l, h.most⟩
theorem RB.Is.put {x : RB} {w : World} {B b : Nat} {bs : List Bool} (h : x.Is w bs) (hf : x.Fr B) (hb : b < B) (i : Nat) (v : Value) : x.Is (w.setCell ⟨b, i, none⟩ v) bs :=
  h.keepsBut (KeepsBut.setCell _ _ _ _) fun a ha => by have := hf a ha; omega
/-- these cells lie there -/
def RowV (w : World) (a : Option Addr) (n : Nat) (vs : List Value) : Prop :=
  vs.length = n ∧ ∀ i, i < n → ∃ b off, a = some ⟨b, off, none⟩ ∧ w.cell? ⟨b, off + i, none⟩ = vs[i]?
theorem RowV.addr {w : World} {a : Option Addr} {n : Nat} {vs : List Value} (h : RowV w a n vs) (h0 : 0 < n) :
    ∃ b off, a = some ⟨b, off, none⟩ ∧ (∀ i, i < n → w.cell? ⟨b, off + i, none⟩ = vs[i]?) ∧ b < w.heap.size := by
  obtain ⟨b, off, hab, hc⟩ := h.2 0 h0
  have h1 := h.1
  have hs : vs[0]? = some (vs[0]'(by omega)) := List.getElem?_eq_getElem _
  refine ⟨b, off, hab, fun i hi => ?_, World.block_lt_of_cell? _ _ (hc.trans hs)⟩
  obtain ⟨b', off', hab', hc'⟩ := h.2 i hi
  rw [hab] at hab'
  simp only [Option.some.injEq, Addr.mk.injEq] at hab'
  obtain ⟨rfl, rfl, _⟩ := hab'
  exact hc'
theorem RowV.keeps {w w' : World} {a : Option Addr} {n : Nat} {vs : List Value} (h : RowV w a n vs) (hk : Keeps w w') : RowV w' a n vs := by
  refine ⟨h.1, fun i hi => ?_⟩
  obtain ⟨b, off, hab, hc⟩ := h.2 i hi
  have h1 := h.1
  have hs : vs[i]? = some (vs[i]'(by omega)) := List.getElem?_eq_getElem _
  rw [hs] at hc ⊢
  exact ⟨b, off, hab, hk.later hc⟩
theorem RowV.nil (w : World) (a : Option Addr) : RowV w a 0 [] := ⟨rfl, fun i hi => by omega⟩

/-- a slice of truths -/
structure Bools (w : World) (v : Value) (bs : List Bool) : Prop where
  shape : ∃ a cap, v = .slice a bs.length cap ∧ bs.length ≤ cap ∧ cap ≤ 9223372036854775807 ∧ RowV w a bs.length (bs.map Value.bool)
theorem Bools.keeps {w w' : World} {v : Value} {bs : List Bool} (h : Bools w v bs) (hk : Keeps w w') : Bools w' v bs := by
  obtain ⟨a, cap, h1, h2, h3, h4⟩ := h.shape
  exact ⟨a, cap, h1, h2, h3, h4.keeps hk⟩

/-- a slice that the call itself has made, from block 'base' on, of elements of one cell -/
def Own (w : World) (base t : Nat) (v : Value) (xs : List Value) : Prop := w.ownsRow base t 1 v xs.length xs
theorem Own.nil (w : World) (base t : Nat) : Own w base t (.slice none 0 0) [] := World.ownsRow_nil _ _ _ _
theorem Own.block {w w' : World} {base t : Nat} {v : Value} {xs : List Value} (h : Own w base t v xs) (hb : ∀ k, v.ownBlock = some k → w'.heap[k]? = w.heap[k]?) : Own w' base t v xs := by
  refine ⟨h.1, ?_⟩
  rcases h.2 with hn | ⟨g, cap, cur, rfl, hbg, hg, rest⟩
  · exact .inl hn
  · exact .inr ⟨g, cap, cur, rfl, hbg, by rw [hb g rfl]; exact hg, rest⟩
theorem Own.lt {w : World} {base t : Nat} {v : Value} {xs : List Value} (h : Own w base t v xs) : ∀ k, v.ownBlock = some k → base ≤ k ∧ k < w.heap.size := World.ownsRow.lt h
theorem Own.keeps {w w' : World} {base t : Nat} {v : Value} {xs : List Value} (h : Own w base t v xs) (hk : Keeps w w') : Own w' base t v xs :=
  h.block fun k hk' => hk.block k (h.lt k hk').2
theorem Own.keepsBut {w w' : World} {base t g : Nat} {v : Value} {xs : List Value} (h : Own w base t v xs) (hk : KeepsBut g w w') (hg : v.ownBlock ≠ some g) : Own w' base t v xs :=
  h.block fun k hk' => hk.block k (h.lt k hk').2 (by rintro rfl; exact hg hk')
theorem Own.mono {w : World} {base base' t : Nat} {v : Value} {xs : List Value} (h : Own w base t v xs) (hb : base' ≤ base) : Own w base' t v xs := by
  refine ⟨h.1, ?_⟩
  rcases h.2 with hn | ⟨g, cap, cur, hv, hbg, rest⟩
  · exact .inl hn
  · exact .inr ⟨g, cap, cur, hv, Nat.le_trans hb hbg, rest⟩
theorem Own.shape {w : World} {base t : Nat} {v : Value} {xs : List Value} (h : Own w base t v xs) :
    ∃ a cap, v = .slice a xs.length cap ∧ xs.length ≤ cap ∧ cap ≤ 9223372036854775807 ∧ RowV w a xs.length xs := by
  have h' := h
  rcases h.2 with ⟨hv, hn⟩ | ⟨g, cap, cur, hv, hbg, hg, hn, hm, hs, ht⟩
  · obtain rfl := List.eq_nil_of_length_eq_zero hn
    exact ⟨none, 0, hv, Nat.le_refl _, by decide, RowV.nil _ _⟩
  · refine ⟨_, cap, hv, hn, by unfold maxLen at hm; omega, rfl, fun i hi => ⟨g, 0, rfl, ?_⟩⟩
    subst hv
    have := World.ownsRow.cellAt h' i (by omega)
    simpa using this
theorem Own.bools {w : World} {base t : Nat} {v : Value} {bs : List Bool} (h : Own w base t v (bs.map Value.bool)) : Bools w v bs := by
  obtain ⟨a, cap, h1, h2, h3, h4⟩ := h.shape
  simp only [List.length_map] at h1 h2 h4
  exact ⟨a, cap, h1, h2, h3, h4⟩

/-- 'l = append(l, x)', l the call's own -/
theorem wpList_push {P : Program} {w : World} {ops : Array Oper} {rest : List Oper} {o : Oper} {a : Act} {Q : Exit → Act → World → Prop} (hgd : o.guard = none) (s x : Operand) (t : TypeId)
    (ho : o.op = .call { callee := .builtin .append, args := #[s, x], argTypes := #[t, t] }) (e bytes : Nat) (z : Value) (ht : P.underlying t = some (.slice e))
    (hinfo : (P.info? e).map (fun i => (i.zero, i.size, i.bytes)) = some (some z, 1, bytes)) (hz : z.cells.size = 1)
    (base : Nat) (v : Value) (xs : List Value) (hs : a.eval s = v) (hown : Own w base e v xs) (ad : Addr) (u : Value) (hx : a.eval x = .slice (some ad) 1 1) (hc : w.cell? ad = some u)
    (h1 : u.oneCell' = true) (hlen : (xs.length + 1) * bytes ≤ 140737488355328) (h63 : xs.length + 1 ≤ 9223372036854775807) (hbase : base ≤ w.heap.size)
    (h : ∀ v' w', Own w' base e v' (xs ++ [u]) → Below base w w' → wpList P ops Q rest (a.put o.dst v') w') : wpList P ops Q (o :: rest) a w := by
  obtain ⟨i, hi, hz0, hz1, hz2⟩ := info_parts hinfo
  refine wpList_append_own w hgd s x t ho base e i z 1 bytes ht hi hz0 hz1 hz2 hz (by decide) v xs.length xs hs hown ad 1 1 [u] hx rfl ?_ (by simpa using h1) (by unfold maxLen; omega) hlen hbase ?_
  · intro j y hj
    match j, hj with
    | 0, hj => simp at hj; subst hj; simpa [Addr.add] using hc
  · intro v' w' hown' hg _
    refine h v' w' ?_ ?_
    · unfold Own; rw [List.length_append]; exact hown'
    · exact (Below.refl base w).grown hg hbase fun k hk => (hown.lt k hk).1
end Go.Proofs.Ytmjodcackmjllaa
