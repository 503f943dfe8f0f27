/- Layer 12: an interface held by value; what it says. -/
import Derived.Test.YtcophhdlcjemeaaA1
import Derived.Test.YtcophhdlcjemeaaNums
namespace Go.Proofs.Ytcophhdlcjemeaa
open Go.RowKit
set_option linter.unusedVariables false
set_option linter.unusedSimpArgs false
/-- bytes -/
structure RY where
  a : Option Addr
  len : Nat
  cap : Nat
  l : List Nat
structure RY.In (x : RY) (w : World) : Prop where
  cap : x.len ≤ x.cap
  max : x.cap ≤ 9223372036854775807
  byte : ∀ v ∈ x.l, v < 256
  row : Row w .u8 x.a x.len x.l
theorem RY.In.keeps {x : RY} {w w' : World} (h : x.In w) (hk : Keeps w w') : x.In w' := ⟨h.cap, h.max, h.byte, h.row.keeps hk⟩
theorem RY.In.keepsBut {x : RY} {w w' : World} {g : Nat} (h : x.In w) (hk : KeepsBut g w w') (hg : 0 < x.len → ∀ a, x.a = some a → a.block ≠ g) : x.In w' := by
  refine ⟨h.cap, h.max, h.byte, h.row.1, fun i hi => ?_⟩
  obtain ⟨b, off, hab, hc⟩ := h.row.2 i hi
  refine ⟨b, off, hab, ?_⟩
  rw [hk.cell b _ (World.block_lt_of_cell? _ _ hc) (hg (by omega) _ hab)]
  exact hc
theorem RY.In.grown {x : RY} {w w' : World} {row : Option Nat} (h : x.In w) (hg : w.grownBy w' row) (hf : 0 < x.len → ∀ a, x.a = some a → row ≠ some a.block) : x.In w' := by
  refine ⟨h.cap, h.max, h.byte, h.row.1, fun i hi => ?_⟩
  obtain ⟨b, off, hab, hc⟩ := h.row.2 i hi
  refine ⟨b, off, hab, ?_⟩
  rw [World.cell?_of_block (a := ⟨b, off + i, none⟩) (hg.block b (World.block_lt_of_cell? _ _ hc) fun e => hf (by omega) _ hab e.symm)]
  exact hc
theorem RY.In.blk {x : RY} {w : World} (h : x.In w) (h0 : 0 < x.len) (a : Addr) (ha : x.a = some a) : a.block < w.heap.size := by
  obtain ⟨b, off, hab, hc⟩ := h.row.2 0 h0
  rw [hab] at ha
  cases ha
  exact World.block_lt_of_cell? _ _ hc
def RY.zero : RY := ⟨none, 0, 0, []⟩
theorem RY.zero_in (w : World) : RY.zero.In w := ⟨Nat.le_refl _, by decide, fun v hv => (by cases hv), Row.nil _ _ _⟩
/-- a message -/
structure RMsg where
  d : RY
  age : Int
abbrev RMsg.val (m : RMsg) : Value := .agg #[.slice m.d.a m.d.len m.d.cap, .int .i64 m.age]
def RMsg.cells (m : RMsg) : List Value := [.slice m.d.a m.d.len m.d.cap, .int .i64 m.age]
abbrev PMsg := List Nat × Int
def RMsg.p (m : RMsg) : PMsg := (m.d.l, m.age)
def RMsg.zero : RMsg := ⟨RY.zero, 0⟩
/-- a list of messages -/
structure RMss (w : World) (a : Option Addr) (n cap : Nat) (xs : List RMsg) : Prop where
  len : xs.length = n
  hcap : n ≤ cap
  hmax : cap ≤ 9223372036854775807
  isIn : ∀ x ∈ xs, x.d.In w
  cell : ∀ i (h : i < xs.length), ∃ b off, a = some ⟨b, off, none⟩ ∧ w.cell? ⟨b, off + i * 2, none⟩ = some (.slice xs[i].d.a xs[i].d.len xs[i].d.cap) ∧ w.cell? ⟨b, off + i * 2 + 1, none⟩ = some (.int .i64 xs[i].age)
theorem RMss.keeps {w w' : World} {a : Option Addr} {n cap : Nat} {xs : List RMsg} (h : RMss w a n cap xs) (hk : Keeps w w') : RMss w' a n cap xs :=
  ⟨h.len, h.hcap, h.hmax, fun x hx => (h.isIn x hx).keeps hk, fun i hi => by
    obtain ⟨b, off, h1, h2, h3⟩ := h.cell i hi
    exact ⟨b, off, h1, hk.later h2, hk.later h3⟩⟩
theorem RMss.addr {w : World} {a : Option Addr} {n cap : Nat} {xs : List RMsg} (h : RMss w a n cap xs) (h0 : 0 < xs.length) : ∃ b off, a = some ⟨b, off, none⟩ ∧
    ∀ i (hi : i < xs.length), w.cell? ⟨b, off + i * 2, none⟩ = some (.slice xs[i].d.a xs[i].d.len xs[i].d.cap) ∧ w.cell? ⟨b, off + i * 2 + 1, none⟩ = some (.int .i64 xs[i].age) := by
  obtain ⟨b, off, hab, -⟩ := h.cell 0 h0
  refine ⟨b, off, hab, fun i hi => ?_⟩
  obtain ⟨b', off', hab', h1⟩ := h.cell i hi
  rw [hab] at hab'
  simp only [Option.some.injEq, Addr.mk.injEq] at hab'
  obtain ⟨rfl, rfl, _⟩ := hab'
  exact h1
theorem RMss.nil (w : World) : RMss w none 0 0 [] := ⟨rfl, Nat.le_refl _, by decide, fun x hx => (by cases hx), fun i hi => absurd hi (Nat.not_lt_zero _)⟩
def mcells (xs : List RMsg) : List Value := xs.flatMap RMsg.cells
theorem mcells_length : ∀ xs : List RMsg, (mcells xs).length = xs.length * 2
  | [] => rfl
  | x :: xs => by
    have := mcells_length xs
    unfold mcells at *
    simp only [List.flatMap_cons, List.length_append, List.length_cons, this]
    simp [RMsg.cells]; omega
theorem mcells_get : ∀ (xs : List RMsg) (i j : Nat) (hi : i < xs.length), j < 2 → (mcells xs)[i * 2 + j]? = xs[i].cells[j]?
  | x :: xs, 0, j, hi, hj => by
    unfold mcells
    simp only [List.flatMap_cons, Nat.zero_mul, Nat.zero_add, List.getElem_cons_zero]
    rw [List.getElem?_append_left (by simp [RMsg.cells]; omega)]
  | x :: xs, i + 1, j, hi, hj => by
    have := mcells_get xs i j (by simpa using hi) hj
    unfold mcells at *
    simp only [List.flatMap_cons, List.getElem_cons_succ]
    rw [List.getElem?_append_right (by simp [RMsg.cells]; omega), ← this]
    congr 1
    simp [RMsg.cells]; omega
theorem mcells_set0 : ∀ (xs : List RMsg) (i : Nat) (hi : i < xs.length) (d : RY), (mcells xs).set (i * 2) (.slice d.a d.len d.cap) = mcells (xs.set i ⟨d, xs[i].age⟩)
  | x :: xs, 0, hi, d => by simp [mcells, RMsg.cells]
  | x :: xs, i + 1, hi, d => by
    have := mcells_set0 xs i (by simpa using hi) d
    unfold mcells at *
    simp only [List.flatMap_cons, List.set_cons_succ, List.getElem_cons_succ]
    rw [← this, show (i + 1) * 2 = i * 2 + 1 + 1 by omega]
    simp [RMsg.cells]
theorem mcells_set1 : ∀ (xs : List RMsg) (i : Nat) (hi : i < xs.length) (a : Int), (mcells xs).set (i * 2 + 1) (.int .i64 a) = mcells (xs.set i ⟨xs[i].d, a⟩)
  | x :: xs, 0, hi, d => by simp [mcells, RMsg.cells]
  | x :: xs, i + 1, hi, d => by
    have := mcells_set1 xs i (by simpa using hi) d
    unfold mcells at *
    simp only [List.flatMap_cons, List.set_cons_succ, List.getElem_cons_succ]
    rw [← this, show (i + 1) * 2 + 1 = (i * 2 + 1) + 1 + 1 by omega]
    simp [RMsg.cells]
/-- a list of messages that the call itself has made -/
structure OwnMs (w : World) (base : Nat) (v : Value) (xs : List RMsg) : Prop where
  row : w.ownsRow base 53 2 v xs.length (mcells xs)
  isIn : ∀ x ∈ xs, x.d.In w
  far : ∀ x ∈ xs, 0 < x.d.len → ∀ a, x.d.a = some a → v.ownBlock ≠ some a.block
theorem OwnMs.nil (w : World) (base : Nat) : OwnMs w base (.slice none 0 0) [] := ⟨World.ownsRow_nil _ _ _ _, fun x hx => (by cases hx), fun x hx => by cases hx⟩
theorem OwnMs.lt {w : World} {base : Nat} {v : Value} {xs : List RMsg} (h : OwnMs w base v xs) : ∀ k, v.ownBlock = some k → base ≤ k ∧ k < w.heap.size := World.ownsRow.lt h.row
theorem OwnMs.keeps {w w' : World} {base : Nat} {v : Value} {xs : List RMsg} (h : OwnMs w base v xs) (hk : Keeps w w') : OwnMs w' base v xs := by
  refine ⟨⟨h.row.1, ?_⟩, fun x hx => (h.isIn x hx).keeps hk, h.far⟩
  rcases h.row.2 with hn | ⟨g, cap, cur, rfl, hbg, hg, rest⟩
  · exact .inl hn
  · exact .inr ⟨g, cap, cur, rfl, hbg, by rw [hk.block g (h.lt g rfl).2]; exact hg, rest⟩
/-- a store into another block, in which none of the bytes lie -/
theorem OwnMs.keepsBut {w w' : World} {base g : Nat} {v : Value} {xs : List RMsg} (h : OwnMs w base v xs) (hk : KeepsBut g w w') (hv : v.ownBlock ≠ some g) (hg : ∀ x ∈ xs, 0 < x.d.len → ∀ a, x.d.a = some a → a.block ≠ g) : OwnMs w' base v xs := by
  refine ⟨⟨h.row.1, ?_⟩, fun x hx => (h.isIn x hx).keepsBut hk (hg x hx), h.far⟩
  rcases h.row.2 with hn | ⟨g', cap, cur, rfl, hbg, hg', rest⟩
  · exact .inl hn
  · exact .inr ⟨g', cap, cur, rfl, hbg, by rw [hk.block g' (h.lt g' rfl).2 (by rintro rfl; exact hv rfl)]; exact hg', rest⟩
theorem OwnMs.mono {w : World} {base base' : Nat} {v : Value} {xs : List RMsg} (h : OwnMs w base v xs) (hb : base' ≤ base) : OwnMs w base' v xs := by
  refine ⟨⟨h.row.1, ?_⟩, h.isIn, h.far⟩
  rcases h.row.2 with hn | ⟨g, cap, cur, hv, hbg, rest⟩
  · exact .inl hn
  · exact .inr ⟨g, cap, cur, hv, Nat.le_trans hb hbg, rest⟩
theorem OwnMs.shape {w : World} {base : Nat} {v : Value} {xs : List RMsg} (h : OwnMs w base v xs) :
    ∃ a cap, v = .slice a xs.length cap ∧ RMss w a xs.length cap xs ∧ (0 < xs.length → ∃ g, a = some ⟨g, 0, none⟩ ∧ base ≤ g ∧ g < w.heap.size) := by
  have h' := h.row
  rcases h.row.2 with ⟨hv, hn⟩ | ⟨g, cap, cur, hv, hbg, hg, hn, hm, hs, ht⟩
  · obtain rfl := List.eq_nil_of_length_eq_zero hn
    exact ⟨none, 0, hv, RMss.nil w, fun h0 => absurd h0 (Nat.not_lt_zero _)⟩
  · subst hv
    refine ⟨_, cap, rfl, ⟨rfl, hn, by unfold maxLen at hm; omega, h.isIn, fun i hi => ⟨g, 0, rfl, ?_, ?_⟩⟩, fun _ => ⟨g, rfl, hbg, (h.lt g rfl).2⟩⟩
    · have := World.ownsRow.cellAt h' (i * 2) (by omega)
      rw [show i * 2 = i * 2 + 0 from rfl, mcells_get xs i 0 hi (by decide)] at this
      simpa [RMsg.cells] using this
    · have := World.ownsRow.cellAt h' (i * 2 + 1) (by omega)
      rw [mcells_get xs i 1 hi (by decide)] at this
      simpa [RMsg.cells] using this
/-- 'l[i].Data = d' -/
theorem OwnMs.put0 {w : World} {base g n cap : Nat} {xs : List RMsg} (h : OwnMs w base (.slice (some ⟨g, 0, none⟩) n cap) xs) (hn : xs.length = n) (i : Nat) (hi : i < xs.length) (d : RY) (hd : d.In w) (hf : 0 < d.len → ∀ a, d.a = some a → a.block ≠ g) :
    OwnMs (w.setCell ⟨g, i * 2, none⟩ (.slice d.a d.len d.cap)) base (.slice (some ⟨g, 0, none⟩) n cap) (xs.set i ⟨d, xs[i].age⟩) := by
  subst hn
  obtain ⟨h1, h2⟩ := World.ownsRow.stored h.row (i * 2) (.slice d.a d.len d.cap)
  have hb : ∀ x ∈ xs, 0 < x.d.len → ∀ a, x.d.a = some a → a.block ≠ g := fun x hx h0 a ha e => h.far x hx h0 a ha (by rw [e]; rfl)
  refine ⟨?_, fun x hx => ?_, fun x hx h0 a ha => ?_⟩
  · rw [mcells_set0 xs i hi d] at h1
    rwa [List.length_set]
  · rcases List.mem_or_eq_of_mem_set hx with hx | rfl
    · exact (h.isIn x hx).keepsBut (KeepsBut.setCell _ _ _ _) (hb x hx)
    · exact hd.keepsBut (KeepsBut.setCell _ _ _ _) hf
  · rcases List.mem_or_eq_of_mem_set hx with hx | rfl
    · exact h.far x hx h0 a ha
    · intro e
      simp only [Value.ownBlock, Option.some.injEq] at e
      exact hf h0 a ha e.symm
/-- 'l[i].Age = a' -/
theorem OwnMs.put1 {w : World} {base g n cap : Nat} {xs : List RMsg} (h : OwnMs w base (.slice (some ⟨g, 0, none⟩) n cap) xs) (hn : xs.length = n) (i : Nat) (hi : i < xs.length) (v : Int) :
    OwnMs (w.setCell ⟨g, i * 2 + 1, none⟩ (.int .i64 v)) base (.slice (some ⟨g, 0, none⟩) n cap) (xs.set i ⟨xs[i].d, v⟩) := by
  subst hn
  obtain ⟨h1, h2⟩ := World.ownsRow.stored h.row (i * 2 + 1) (.int .i64 v)
  have hb : ∀ x ∈ xs, 0 < x.d.len → ∀ a, x.d.a = some a → a.block ≠ g := fun x hx h0 a ha e => h.far x hx h0 a ha (by rw [e]; rfl)
  have hin : ∀ x ∈ xs.set i ⟨xs[i].d, v⟩, ∃ y ∈ xs, x.d = y.d := fun x hx => by
    rcases List.mem_or_eq_of_mem_set hx with hx | rfl
    · exact ⟨x, hx, rfl⟩
    · exact ⟨xs[i], List.getElem_mem _, rfl⟩
  refine ⟨?_, fun x hx => ?_, fun x hx h0 a ha => ?_⟩
  · rw [mcells_set1 xs i hi v] at h1
    rwa [List.length_set]
  · obtain ⟨y, hy, e⟩ := hin x hx
    rw [e]
    exact (h.isIn y hy).keepsBut (KeepsBut.setCell _ _ _ _) (hb y hy)
  · obtain ⟨y, hy, e⟩ := hin x hx
    rw [e] at h0 ha
    exact h.far y hy h0 a ha
/-- an interface, held by value -/
structure RCni where
  id : Int
  o : RY
  ia : Option Addr
  n : Nat
  cap : Nat
  ms : List RMsg
  life : Int
  want : Int
abbrev RCni.val (c : RCni) : Value := .agg #[.int .i64 c.id, .slice c.o.a c.o.len c.o.cap, .slice c.ia c.n c.cap, .int .i64 c.life, .int .i64 c.want]
structure RCni.In (c : RCni) (w : World) : Prop where
  o : c.o.In w
  m : RMss w c.ia c.n c.cap c.ms
theorem RCni.In.keeps {c : RCni} {w w' : World} (h : c.In w) (hk : Keeps w w') : c.In w' := ⟨h.o.keeps hk, h.m.keeps hk⟩
/-- .. in memory of its own, from block 'base' on -/
structure RCni.Own (c : RCni) (w : World) (base : Nat) : Prop where
  o : c.o.In w
  m : OwnMs w base (.slice c.ia c.n c.cap) c.ms
  far : 0 < c.o.len → ∀ a, c.o.a = some a → Value.ownBlock (.slice c.ia c.n c.cap) ≠ some a.block
  fro : 0 < c.o.len → ∀ a, c.o.a = some a → base ≤ a.block
  frm : ∀ x ∈ c.ms, 0 < x.d.len → ∀ a, x.d.a = some a → base ≤ a.block
theorem RCni.Own.isIn {c : RCni} {w : World} {base : Nat} (h : c.Own w base) : c.In w := by
  obtain ⟨a, cap, hv, hm, -⟩ := h.m.shape
  simp only [Value.slice.injEq] at hv
  obtain ⟨h1, h2, h3⟩ := hv
  exact ⟨h.o, by rw [h1, h2, h3]; exact hm⟩
theorem RCni.Own.keeps {c : RCni} {w w' : World} {base : Nat} (h : c.Own w base) (hk : Keeps w w') : c.Own w' base := ⟨h.o.keeps hk, h.m.keeps hk, h.far, h.fro, h.frm⟩
theorem RCni.Own.mono {c : RCni} {w : World} {base base' : Nat} (h : c.Own w base) (hb : base' ≤ base) : c.Own w base' := ⟨h.o, h.m.mono hb, h.far, fun h0 a ha => Nat.le_trans hb (h.fro h0 a ha), fun x hx h0 a ha => Nat.le_trans hb (h.frm x hx h0 a ha)⟩
/-- what an interface says -/
structure PCni where
  id : Int
  o : List Nat
  ms : List PMsg
  life : Int
  want : Int
def RCni.p (c : RCni) : PCni := ⟨c.id, c.o.l, c.ms.map RMsg.p, c.life, c.want⟩
def RCni.zero : RCni := ⟨0, RY.zero, none, 0, 0, [], 0, 0⟩
def PCni.zero : PCni := ⟨0, [], [], 0, 0⟩
theorem RCni.zero_own (w : World) (base : Nat) : RCni.zero.Own w base := ⟨RY.zero_in w, OwnMs.nil w base, fun h => absurd h (Nat.not_lt_zero _), fun h => absurd h (Nat.not_lt_zero _), fun x hx => by cases hx⟩
/-- the blocks from B to E are as they were -/
def SameOn (B E : Nat) (w w' : World) : Prop := ∀ k, B ≤ k → k < E → w'.heap[k]? = w.heap[k]?
theorem SameOn.refl (B E : Nat) (w : World) : SameOn B E w w := fun _ _ _ => rfl
theorem SameOn.setCell {B E : Nat} {a w : World} (h : SameOn B E a w) {b : Nat} (hb : b < B ∨ E ≤ b) (o : Nat) (u : Value) : SameOn B E a (w.setCell ⟨b, o, none⟩ u) := fun k h1 h2 => by
  rw [show (w.setCell ⟨b, o, none⟩ u).heap[k]? = w.heap[k]? from Below.heap_setCell _ _ _ _ (show k ≠ b by omega)]; exact h k h1 h2
theorem SameOn.alloc {B E : Nat} {a w : World} (h : SameOn B E a w) (hE : E ≤ w.heap.size) (o : Obj) : SameOn B E a (w.alloc o) := fun k h1 h2 => by
  rw [((Keeps.refl w).alloc o).block k (by omega)]; exact h k h1 h2
theorem SameOn.keeps {B E : Nat} {a w w' : World} (h : SameOn B E a w) (hk : Keeps w w') (hE : E ≤ w.heap.size) : SameOn B E a w' := fun k h1 h2 => by
  rw [hk.block k (by omega)]; exact h k h1 h2
theorem RY.In.same {x : RY} {w w' : World} {B E : Nat} (h : x.In w) (hs : SameOn B E w w') (hE : w.heap.size ≤ E) (hf : 0 < x.len → ∀ a, x.a = some a → B ≤ a.block) : x.In w' := by
  refine ⟨h.cap, h.max, h.byte, h.row.1, fun i hi => ?_⟩
  obtain ⟨b, off, hab, hc⟩ := h.row.2 i hi
  refine ⟨b, off, hab, ?_⟩
  rw [World.cell?_of_block (a := ⟨b, off + i, none⟩) (hs b (hf (by omega) _ hab) (by have := World.block_lt_of_cell? _ _ hc; simp only at this; omega))]
  exact hc
theorem RCni.Own.same {c : RCni} {w w' : World} {base E : Nat} (h : c.Own w base) (hs : SameOn base E w w') (hE : w.heap.size ≤ E) : c.Own w' base := by
  refine ⟨h.o.same hs hE h.fro, ⟨⟨h.m.row.1, ?_⟩, fun x hx => (h.m.isIn x hx).same hs hE (h.frm x hx), h.m.far⟩, h.far, h.fro, h.frm⟩
  rcases h.m.row.2 with hn | ⟨g, cap, cur, hv, hbg, hg, rest⟩
  · exact .inl hn
  · exact .inr ⟨g, cap, cur, hv, hbg, by rw [hs g hbg (by have := (h.m.lt g (by rw [hv]; rfl)).2; omega)]; exact hg, rest⟩
/-- is a number from one to another one? -/
def betw (n a b : Int) : Bool := decide (a ≤ n) && decide (n ≤ b)
theorem betw_iff (n a b : Int) : betw n a b = true ↔ a ≤ n ∧ n ≤ b := by unfold betw; simp
theorem betw_no {n a b : Int} (h : ¬ (a ≤ n ∧ n ≤ b)) : betw n a b = false := by rw [Bool.eq_false_iff, ne_eq, betw_iff]; exact h
def msgOk (m : PMsg) : Bool := decide (m.1.length ≤ 8) && betw m.2 0 255
def cniOk (p : PCni) : Bool := betw p.ms.length 4 8 && (betw p.id 0 (p.ms.length - 1) && (decide (p.o.length ≤ 8) && (betw p.life 0 4 && (betw p.want (-1) 3 && p.ms.all msgOk))))
theorem cniOk_iff (p : PCni) : cniOk p = true ↔ (4 ≤ p.ms.length ∧ p.ms.length ≤ 8) ∧ (0 ≤ p.id ∧ p.id ≤ p.ms.length - 1) ∧ p.o.length ≤ 8 ∧ (0 ≤ p.life ∧ p.life ≤ 4) ∧ (-1 ≤ p.want ∧ p.want ≤ 3) ∧ ∀ m ∈ p.ms, m.1.length ≤ 8 ∧ 0 ≤ m.2 ∧ m.2 ≤ 255 := by
  unfold cniOk msgOk
  simp only [Bool.and_eq_true, betw_iff, decide_eq_true_eq, List.all_eq_true]
  constructor
  · rintro ⟨h1, h2, h3, h4, h5, h6⟩; exact ⟨by omega, h2, h3, h4, h5, h6⟩
  · rintro ⟨h1, h2, h3, h4, h5, h6⟩; exact ⟨by omega, h2, h3, h4, h5, h6⟩
end Go.Proofs.Ytcophhdlcjemeaa
