/- The writer: bytes put behind each other. -/
import Derived.Test.YtmjodcackmjllaaM8
namespace Go.Proofs.Ytmjodcackmjllaa
open Go.RowKit
set_option linter.unusedVariables false
set_option linter.unusedSimpArgs false
/-- what grows behind a pointer: the box B, the list's own block, and new ones -/
structure GrB (B : Nat) (w w' : World) (v v' : Value) : Prop where
  os : w'.os = w.os
  tape : w'.tape = w.tape
  output : w'.output = w.output
  size : w.heap.size ≤ w'.heap.size
  block : ∀ k, k < w.heap.size → k ≠ B → v.ownBlock ≠ some k → w'.heap[k]? = w.heap[k]?
  own : v'.ownBlock = v.ownBlock ∨ ∃ k, v'.ownBlock = some k ∧ w.heap.size ≤ k
theorem GrB.refl (B : Nat) (w : World) (v : Value) : GrB B w w v v := ⟨rfl, rfl, rfl, Nat.le_refl _, fun _ _ _ _ => rfl, .inl rfl⟩
theorem GrB.trans {B : Nat} {a b c : World} {u v x : Value} (h : GrB B a b u v) (k : GrB B b c v x) : GrB B a c u x := by
  refine ⟨k.os.trans h.os, k.tape.trans h.tape, k.output.trans h.output, Nat.le_trans h.size k.size, fun i hi hB hu => ?_, ?_⟩
  · refine (k.block i (Nat.lt_of_lt_of_le hi h.size) hB ?_).trans (h.block i hi hB hu)
    intro e
    rcases h.own with h1 | ⟨j, h1, h2⟩
    · rw [h1] at e; exact hu e
    · rw [h1] at e
      simp only [Option.some.injEq] at e
      omega
  · rcases k.own with k1 | ⟨j, k1, k2⟩
    · rcases h.own with h1 | ⟨i, h1, h2⟩
      · exact .inl (k1.trans h1)
      · exact .inr ⟨i, k1.trans h1, h2⟩
    · exact .inr ⟨j, k1, Nat.le_trans h.size k2⟩
theorem Keeps.grB {a b : World} (h : Keeps a b) (B : Nat) (v : Value) : GrB B a b v v := ⟨Below.os h, Below.tape h, Below.output h, h.size, fun k hk _ _ => h.block k hk, .inl rfl⟩
theorem GrB.keeps {B : Nat} {a w w' : World} {v v' : Value} (h : GrB B w w' v v') (hk : Keeps a w) (hB : a.heap.size ≤ B) (hv : ∀ k, v.ownBlock = some k → a.heap.size ≤ k) : Keeps a w' :=
  ⟨h.os.trans (Below.os hk), h.tape.trans (Below.tape hk), h.output.trans (Below.output hk), Nat.le_trans hk.size h.size, fun k hk' => (h.block k (Nat.lt_of_lt_of_le hk' hk.size) (by omega) (fun e => by have := hv k e; omega)).trans (hk.block k hk')⟩
theorem GrB.grown {B : Nat} {a b : World} {v v' : Value} (hg : a.grownBy b v.ownBlock) (hv : v'.ownBlock = v.ownBlock ∨ v'.ownBlock = some a.heap.size) : GrB B a b v v' :=
  ⟨hg.os, hg.tape, hg.output, hg.size, fun k hk _ hu => hg.block k hk (fun e => hu e.symm), hv.imp id fun e => ⟨_, e, Nat.le_refl _⟩⟩
theorem GrB.put {B : Nat} {a b : World} {v v' : Value} (h : GrB B a b v v') (i : Nat) (u : Value) : GrB B a (b.setCell ⟨B, i, none⟩ u) v v' :=
  ⟨h.os, h.tape, h.output, by simpa using h.size, fun k hk hB hu => (heap_setCell_other b ⟨B, i, none⟩ k u (fun e => hB (by simp [e]))).trans (h.block k hk hB hu), h.own⟩
def u8s (l : List Nat) : List Value := l.map fun n : Nat => Value.int .u8 n
theorem u8s_len (l : List Nat) : (u8s l).length = l.length := by simp [u8s]
theorem u8s_app (l k : List Nat) : u8s (l ++ k) = u8s l ++ u8s k := by simp [u8s]
/-- a writer whose bytes are l -/
structure Wr (w : World) (base B : Nat) (v : Value) (l : List Nat) : Prop where
  box : Box w B 97 #[v]
  own : Own w base 5 v (u8s l)
  far : v.ownBlock ≠ some B
theorem Wr.keeps {w w' : World} {base B : Nat} {v : Value} {l : List Nat} (h : Wr w base B v l) (hk : Keeps w w') : Wr w' base B v l := ⟨h.box.keeps hk, h.own.keeps hk, h.far⟩
end Go.Proofs.Ytmjodcackmjllaa
