/- What a value of bits is in memory, and what a call leaves of the world. No function of the program in sight. -/
import Derived.WalkKit
import Derived.WalkSpells
import Derived.WalkLawsBesides
import Derived.Lib.Hide
import Derived.Deep.OwnRows
import Derived.Laws.CopyOwn
import Derived.Test.YtmjodcackmjllaaPlainBits
namespace Go.Proofs.Ytmjodcackmjllaa
open Go.RowKit
set_option linter.unusedVariables false
set_option linter.unusedSimpArgs false

/-- WHAT LAY THERE LIES THERE AS IT LAY. -/
def Keeps (w w' : World) : Prop := Below w.heap.size w w'
theorem Keeps.refl (w : World) : Keeps w w := Below.refl _ _
theorem Keeps.trans {a b c : World} (h : Keeps a b) (k : Keeps b c) : Keeps a c := Below.trans h (k.mono h.size)
theorem Keeps.drew {a w : World} (h : Keeps a w) : Keeps a w.drew := Below.drew h
theorem Keeps.drewN {a w : World} (h : Keeps a w) (n : Nat) : Keeps a (w.drewN n) := below_drewN h n
theorem Keeps.alloc {a w : World} (h : Keeps a w) (o : Obj) : Keeps a (w.alloc o) := Below.alloc h h.size o
theorem Keeps.setCell {a w : World} (h : Keeps a w) {p : Addr} (hp : a.heap.size ≤ p.block) (u : Value) : Keeps a (w.setCell p u) := Below.setCell h hp u
theorem Keeps.size {a w : World} (h : Keeps a w) : a.heap.size ≤ w.heap.size := Below.size h
theorem Keeps.cell {a w : World} (h : Keeps a w) (b o : Nat) (hb : b < a.heap.size) : w.cell? ⟨b, o, none⟩ = a.cell? ⟨b, o, none⟩ := Below.cell (p := ⟨b, o, none⟩) h hb
theorem Keeps.frozen {a w : World} (h : Keeps a w) (b o : Nat) (hb : b < a.heap.size) : w.frozen? ⟨b, o, none⟩ = a.frozen? ⟨b, o, none⟩ := Below.frozen (p := ⟨b, o, none⟩) h hb
theorem Keeps.block {a w : World} (h : Keeps a w) (b : Nat) (hb : b < a.heap.size) : w.heap[b]? = a.heap[b]? := Below.block h b hb
theorem Keeps.later {a w : World} (h : Keeps a w) {p : Addr} {v : Value} (hp : a.cell? p = some v) : w.cell? p = some v := cell_later h hp
/-- a box that the call has laid, behind what keeps -/
theorem Keeps.box {w w1 : World} {c : Array Value} {t : TypeId} (h : Keeps (w.alloc (.cells c t)) w1) (i : Nat) (v : Value) (hv : c[i]? = some v) : w1.cell? ⟨w.heap.size, i, none⟩ = some v := by
  rw [h.cell _ _ (by simp), World.cell?_alloc_new]; exact hv
theorem Keeps.box_lt {w w1 : World} {o : Obj} (h : Keeps (w.alloc o) w1) : w.heap.size < w1.heap.size := by
  have := h.size; simp at this; omega
theorem Keeps.unbox {w w1 : World} {o : Obj} (h : Keeps (w.alloc o) w1) : Keeps w w1 := ((Keeps.refl w).alloc o).trans h
/-- the two rules that the walk uses behind a call -/
theorem Keeps.rules {a w : World} (h : Keeps a w) : (∀ b o, b < a.heap.size → w.cell? ⟨b, o, none⟩ = a.cell? ⟨b, o, none⟩) ∧ (∀ b o, b < a.heap.size → w.frozen? ⟨b, o, none⟩ = a.frozen? ⟨b, o, none⟩) :=
  ⟨h.cell, h.frozen⟩
/-- WHAT LAY THERE LIES THERE AS IT LAY, BUT FOR ONE BLOCK. -/
structure KeepsBut (g : Nat) (w w' : World) : Prop where
  os : w'.os = w.os
  tape : w'.tape = w.tape
  output : w'.output = w.output
  size : w.heap.size ≤ w'.heap.size
  block : ∀ k, k < w.heap.size → k ≠ g → w'.heap[k]? = w.heap[k]?
theorem KeepsBut.refl (g : Nat) (w : World) : KeepsBut g w w := ⟨rfl, rfl, rfl, Nat.le_refl _, fun _ _ _ => rfl⟩
theorem KeepsBut.trans {g : Nat} {a b c : World} (h : KeepsBut g a b) (k : KeepsBut g b c) : KeepsBut g a c :=
  ⟨k.os.trans h.os, k.tape.trans h.tape, k.output.trans h.output, Nat.le_trans h.size k.size, fun i hi hg => (k.block i (Nat.lt_of_lt_of_le hi h.size) hg).trans (h.block i hi hg)⟩
theorem Keeps.but {a w : World} (h : Keeps a w) (g : Nat) : KeepsBut g a w := ⟨Below.os h, Below.tape h, Below.output h, Below.size h, fun k hk _ => Below.block h k hk⟩
theorem KeepsBut.keeps {g : Nat} {a b c : World} (h : Keeps a b) (k : KeepsBut g b c) (hg : a.heap.size ≤ g) : Keeps a c :=
  ⟨k.os.trans (Below.os h), k.tape.trans (Below.tape h), k.output.trans (Below.output h), Nat.le_trans (Below.size h) k.size,
    fun i hi => (k.block i (Nat.lt_of_lt_of_le hi (Below.size h)) (by omega)).trans (Below.block h i hi)⟩
theorem KeepsBut.setCell (w : World) (g o : Nat) (u : Value) : KeepsBut g w (w.setCell ⟨g, o, none⟩ u) :=
  ⟨rfl, rfl, rfl, by simp [World.setCell], fun _ _ hg => Below.heap_setCell _ _ _ _ hg⟩
theorem KeepsBut.cell {g : Nat} {a w : World} (h : KeepsBut g a w) (b o : Nat) (hb : b < a.heap.size) (hg : b ≠ g) : w.cell? ⟨b, o, none⟩ = a.cell? ⟨b, o, none⟩ :=
  World.cell?_of_block (a := ⟨b, o, none⟩) (h.block b hb hg)
theorem KeepsBut.rules {g : Nat} {a w : World} (h : KeepsBut g a w) : (∀ b o, b < a.heap.size → ¬ b = g → w.cell? ⟨b, o, none⟩ = a.cell? ⟨b, o, none⟩) ∧ (∀ b o, b < a.heap.size → ¬ b = g → w.frozen? ⟨b, o, none⟩ = a.frozen? ⟨b, o, none⟩) :=
  ⟨fun b o hb hg => World.cell?_of_block (a := ⟨b, o, none⟩) (h.block b hb hg), fun b o hb hg => World.frozen?_of_block (a := ⟨b, o, none⟩) (h.block b hb hg)⟩

/-- a block that holds just these numbers -/
def Blk (w : World) (k : IntKind) (t g : Nat) (l : List Nat) : Prop := w.heap[g]? = some (.cells ((l.map fun n : Nat => Value.int k n).toArray) t (0, 0))
theorem Blk.lt {w : World} {k : IntKind} {t g : Nat} {l : List Nat} (h : Blk w k t g l) : g < w.heap.size := (Array.getElem?_eq_some_iff.1 h).1
theorem Blk.cell {w : World} {k : IntKind} {t g : Nat} {l : List Nat} (h : Blk w k t g l) (i : Nat) (hi : i < l.length) : w.cell? ⟨g, i, none⟩ = some (.int k ((l.getD i 0 : Nat) : Int)) := by
  unfold Blk at h
  simp [World.cell?, h, hi]
theorem Blk.frozen {w : World} {k : IntKind} {t g : Nat} {l : List Nat} (h : Blk w k t g l) (i : Nat) : w.frozen? ⟨g, i, none⟩ = false := by
  unfold Blk at h
  simp [World.frozen?, h]
theorem Blk.keeps {w w' : World} {k : IntKind} {t g : Nat} {l : List Nat} (h : Blk w k t g l) (hk : Keeps w w') : Blk w' k t g l := (hk.block g h.lt).trans h
theorem Blk.keepsBut {w w' : World} {k : IntKind} {t g c : Nat} {l : List Nat} (h : Blk w k t g l) (hk : KeepsBut c w w') (hc : g ≠ c) : Blk w' k t g l := (hk.block g h.lt hc).trans h
theorem Blk.set {w : World} {k : IntKind} {t g : Nat} {l : List Nat} (h : Blk w k t g l) (i v : Nat) : Blk (w.setCell ⟨g, i, none⟩ (.int k (v : Int))) k t g (l.set i v) := by
  unfold Blk at h ⊢
  simp [World.setCell, Array.getElem?_modify, h, List.map_set]

/-- A VALUE OF BITS: how many; where the bytes lie; the bytes. -/
structure RB where
  n : Int
  a : Option Addr
  len : Nat
  cap : Nat
  l : List Nat
abbrev RB.val (x : RB) : Value := .agg #[.int .i64 x.n, .slice x.a x.len x.cap]
/-- numbers of a kind lie there -/
def Row (w : World) (k : IntKind) (a : Option Addr) (len : Nat) (l : List Nat) : Prop :=
  l.length = len ∧ ∀ i, i < len → ∃ b off, a = some ⟨b, off, none⟩ ∧ w.cell? ⟨b, off + i, none⟩ = some (.int k ((l.getD i 0 : Nat) : Int))
theorem Row.addr {w : World} {k : IntKind} {a : Option Addr} {len : Nat} {l : List Nat} (h : Row w k a len l) (h0 : 0 < len) :
    ∃ b off, a = some ⟨b, off, none⟩ ∧ (∀ i, i < len → w.cell? ⟨b, off + i, none⟩ = some (.int k ((l.getD i 0 : Nat) : Int))) ∧ b < w.heap.size := by
  obtain ⟨b, off, hab, hc⟩ := h.2 0 h0
  refine ⟨b, off, hab, fun i hi => ?_, World.block_lt_of_cell? _ _ hc⟩
  obtain ⟨b', off', hab', hc'⟩ := h.2 i hi
  rw [hab] at hab'
  simp only [Option.some.injEq, Addr.mk.injEq] at hab'
  obtain ⟨rfl, rfl, _⟩ := hab'
  exact hc'
theorem Row.keeps {w w' : World} {k : IntKind} {a : Option Addr} {len : Nat} {l : List Nat} (h : Row w k a len l) (hk : Keeps w w') : Row w' k a len l :=
  ⟨h.1, fun i hi => by obtain ⟨b, off, hab, hc⟩ := h.2 i hi; exact ⟨b, off, hab, hk.later hc⟩⟩
theorem Row.nil (w : World) (k : IntKind) (a : Option Addr) : Row w k a 0 [] := ⟨rfl, fun i hi => by omega⟩
theorem Blk.row {w : World} {k : IntKind} {t g : Nat} {l : List Nat} (h : Blk w k t g l) (len : Nat) (hl : l.length = len) : Row w k (some ⟨g, 0, none⟩) len l :=
  ⟨hl, fun i hi => ⟨g, 0, rfl, by have := h.cell i (by omega); simpa using this⟩⟩

structure RB.In (x : RB) (w : World) : Prop where
  n1 : -9223372036854775808 ≤ x.n
  n2 : x.n ≤ 9223372036854775807
  cap : x.len ≤ x.cap
  max : x.cap ≤ 9223372036854775807
  byte : ∀ v ∈ x.l, v < 256
  row : Row w .u8 x.a x.len x.l
theorem RB.In.keeps {x : RB} {w w' : World} (h : x.In w) (hk : Keeps w w') : x.In w' := ⟨h.n1, h.n2, h.cap, h.max, h.byte, h.row.keeps hk⟩
/-- THE VALUE IS THESE BITS. -/
structure RB.Is (x : RB) (w : World) (bs : List Bool) : Prop where
  isIn : x.In w
  n : x.n = bs.length
  l : x.l = pack bs
  most : bs.length ≤ 4096
theorem RB.Is.keeps {x : RB} {w w' : World} {bs : List Bool} (h : x.Is w bs) (hk : Keeps w w') : x.Is w' bs := ⟨h.isIn.keeps hk, h.n, h.l, h.most⟩
theorem RB.Is.chk {x : RB} {w : World} {bs : List Bool} (h : x.Is w bs) : chk x.n x.l = true := by rw [h.n, h.l]; exact chk_pack bs h.most
theorem RB.Is.len {x : RB} {w : World} {bs : List Bool} (h : x.Is w bs) : x.len = (bs.length + 7) / 8 := by
  rw [← h.isIn.row.1, h.l, pack_len]
theorem RB.Is.shape {x : RB} {w : World} {bs : List Bool} (h : x.Is w bs) : ∃ a cap, x = ⟨bs.length, a, (bs.length + 7) / 8, cap, pack bs⟩ := by
  have h1 := h.n
  have h2 := h.l
  have h3 := h.len
  obtain ⟨n, a, len, cap, l⟩ := x
  simp only at h1 h2 h3
  exact ⟨a, cap, by rw [h1, h2, h3]⟩
def RB.zero : RB := ⟨0, none, 0, 0, []⟩
theorem RB.zero_is (w : World) : RB.zero.Is w [] :=
  ⟨⟨by decide, by decide, by decide, by decide, by simp [RB.zero], Row.nil _ _ _⟩, rfl, rfl, by decide⟩
/-- bits that may be are packed truths -/
theorem RB.In.is {x : RB} {w : World} (h : x.In w) (hc : Go.Proofs.Ytmjodcackmjllaa.chk x.n x.l = true) : x.Is w (unpack x.n.toNat x.l) := by
  obtain ⟨h0, h1, -, -⟩ := chk_parts hc
  exact ⟨h, by rw [unpack_len]; omega, pack_unpack hc h.byte, by rw [unpack_len]; omega⟩

/-- a row of zeros as make lays it -/
def zeros (k : IntKind) (n : Nat) : Array Value := ((List.replicate n 0).map fun x : Nat => Value.int k x).toArray
theorem madeCells_zeros (k : IntKind) (n : Nat) : madeCells #[.int k 0] n = zeros k n := by
  unfold madeCells zeros
  apply Array.ext
  · simp
  · intro i h1 h2
    simp [Nat.mod_one]
theorem Blk.zeros (w : World) (k : IntKind) (t n : Nat) : Blk (w.alloc (.cells (zeros k n) t)) k t w.heap.size (List.replicate n 0) := heap_alloc_new w _
/-- 'make([]T, n)' of numbers -/
theorem run_make_zeros {P : Program} (t e bytes : Nat) (k : IntKind) (ht : P.underlying t = some (.slice e)) (hinfo : (P.info? e).map (fun i => (i.zero, i.size, i.bytes)) = some (some (.int k 0), 1, bytes))
    (n : Nat) (v : Int) (hv : v = n) (hbytes : bytes * n ≤ 281474976710656) (h63 : n ≤ 9223372036854775807) (w : World) :
    (Instr.makeSlice t (.int .i64 v) (.int .i64 v)).run P w = .ok (.slice (some ⟨w.heap.size, 0, none⟩) n n) (w.alloc (.cells (Go.Proofs.Ytmjodcackmjllaa.zeros k n) e)) := by
  subst hv
  rw [← madeCells_zeros]
  exact run_make_row' t e (.int k 0) bytes ht hinfo rfl .i64 .i64 n hbytes h63 w

/-- bytes laid over bytes -/
def over (L : List Nat) (off : Nat) (m : List Nat) : List Nat := L.take off ++ (m ++ L.drop (off + m.length))
theorem over_len (L : List Nat) (off : Nat) (m : List Nat) (h : off + m.length ≤ L.length) : (over L off m).length = L.length := by
  simp [over]; omega
/-- 'copy' into a block that is known whole -/
theorem wpList_copy_blk {P : Program} {w : World} {ops : Array Oper} {rest : List Oper} {o : Oper} {a : Act} {Q : Exit → Act → World → Prop} (hgd : o.guard = none) (d s : Operand) (dT sT : TypeId)
    (ho : o.op = .call { callee := .builtin .copy, args := #[d, s], argTypes := #[dT, sT] }) (elem : TypeId) (hu : P.underlying dT = some (.slice elem)) (hsz : (P.info? elem).map (·.size) = some 1) (k : IntKind)
    (dp sp : Option Addr) (dLen dCap sLen sCap : Nat) (hd : a.eval d = .slice dp dLen dCap) (hs : a.eval s = .slice sp sLen sCap)
    (g off t : Nat) (L l : List Nat) (hg : Blk w k t g L) (hrow : Row w k sp sLen l) (hp : 0 < min sLen dLen → dp = some ⟨g, off, none⟩) (hfit : off + min sLen dLen ≤ L.length)
    (h : ∀ w', Blk w' k t g (over L off (l.take (min sLen dLen))) → KeepsBut g w w' → wpList P ops Q rest (a.put o.dst (goInt ((min sLen dLen : Nat) : Int))) w') :
    wpList P ops Q (o :: rest) a w := by
  have hl := hrow.1
  have hct : (l.take (min sLen dLen)).length = min sLen dLen := by simp; omega
  by_cases h0 : min sLen dLen = 0
  · refine wpList_copy_nothing hgd d s dT sT ho elem hu hsz dp sp dLen dCap sLen sCap hd hs h0 ?_
    have := h w (by rw [h0]; simpa [over] using hg) (KeepsBut.refl _ _)
    rw [h0] at this
    exact this
  · obtain rfl := hp (by omega)
    obtain ⟨b, o', rfl, hc, -⟩ := hrow.addr (by omega)
    have := h (w.setRow g ((L.map fun n : Nat => Value.int k n).take off ++ ((l.take (min sLen dLen)).map (fun n : Nat => Value.int k n) ++ (L.map fun n : Nat => Value.int k n).drop (off + min sLen dLen))).toArray)
      (by
        unfold Blk
        rw [setRow_heap w g _ _ t _ hg]
        simp only [over, hct, List.map_append, List.map_take, List.map_drop])
      ⟨rfl, rfl, rfl, by simp [World.setRow], fun i _ hi => setRow_other w g i _ hi⟩
    refine wpList_copy_own hgd d s dT sT ho elem hu hsz g off dLen dCap ⟨b, o', none⟩ sLen sCap hd hs _ t hg ((l.take (min sLen dLen)).map fun n : Nat => Value.int k n) (by rw [List.length_map, hct]) ?_ (by rw [List.length_map, hct]; simpa using hfit)
      (by intro v hv; simp only [List.mem_map] at hv; obtain ⟨x, _, rfl⟩ := hv; rfl) ?_
    · intro j v hv
      simp only [List.getElem?_map, Option.map_eq_some_iff, List.getElem?_take] at hv
      obtain ⟨x, hx, rfl⟩ := hv
      split at hx
      · rename_i hj
        have := hc j (by omega)
        rw [List.getD_eq_getElem?_getD, hx] at this
        by_cases hj0 : j = 0
        · subst hj0; simpa [Addr.add] using this
        · simpa [Addr.add, hj0] using this
      · cases hx
    · rw [List.length_map, hct]
      simpa using this
end Go.Proofs.Ytmjodcackmjllaa
