/- The writer's one. -/
import Derived.Test.YtmjodcackmjllaaQ1
import Derived.Test.YtmjodcackmjllaaW9
namespace Go.Proofs.Ytmjodcackmjllaa
open Go.RowKit
set_option linter.unusedVariables false
set_option linter.unusedSimpArgs false
theorem infoU8q : (Try.prog.info? 5).map (fun i => (i.zero, i.size, i.bytes)) = some (some (.int .u8 0), 1, 1) := by kernel_rfl
/-- 'append(l, xs...)', of bytes: what grows -/
theorem wpList_rowsG {w : World} {ops : Array Oper} {rest : List Oper} {o : Oper} {a : Act} {Q : Exit → Act → World → Prop} (hgd : o.guard = none) (s x : Operand)
    (ho : o.op = .call { callee := .builtin .append, args := #[s, x], argTypes := #[61, 61] }) (B : Nat)
    (base : Nat) (v : Value) (l : List Nat) (hs : a.eval s = v) (hown : Own w base 5 v (u8s l)) (y : Addr) (m c : Nat) (news : List Nat) (hx : a.eval x = .slice (some y) m c) (hrow : RowV w (some y) m (u8s news))
    (hlen : l.length + m ≤ 1000000) (hbase : base ≤ w.heap.size)
    (h : ∀ v' w', Own w' base 5 v' (u8s (l ++ news)) → GrB B w w' v v' → (∀ k, k < w.heap.size → v.ownBlock ≠ some k → w'.heap[k]? = w.heap[k]?) → wpList Try.prog ops Q rest (a.put o.dst v') w') : wpList Try.prog ops Q (o :: rest) a w := by
  obtain ⟨i, hi, hz0, hz1, hz2⟩ := info_parts infoU8q
  have hl := hrow.1
  refine wpList_append_own_at w hgd s x 61 ho base 5 i _ 1 1 Try.underlying61 hi hz0 hz1 hz2 rfl (by decide) v (u8s l).length (u8s l) hs hown y m c (u8s news) hx (by omega) (fun j u hj => ?_) (fun u hu => ?_) (by rw [u8s_len]; unfold maxLen; omega) (by rw [u8s_len]; omega) hbase ?_
  · have hjl : j < (u8s news).length := (List.getElem?_eq_some_iff.1 hj).1
    obtain ⟨b, off, hab, hc⟩ := hrow.2 j (by omega)
    cases hab
    rw [hj] at hc
    by_cases hj0 : j = 0
    · subst hj0; simpa [Addr.add] using hc
    · simpa [Addr.add, hj0] using hc
  · simp only [u8s, List.mem_map] at hu
    obtain ⟨z, -, rfl⟩ := hu
    rfl
  · intro v' w' hown' hg _ hat
    refine h v' w' ?_ (GrB.grown hg hat) (fun k hk hu => hg.block k hk (fun e => hu e.symm))
    unfold Own
    rw [u8s_app, List.length_append, hl]
    exact hown'
set_option maxRecDepth 100000 in
set_option maxHeartbeats 2000000 in
theorem Box.rowU {w : World} {b t : Nat} {c : Array Value} (h : Box w b t c) : RowV w (some ⟨b, 0, none⟩) c.size c.toList := by
  refine ⟨by simp, fun i hi => ⟨b, 0, rfl, ?_⟩⟩
  rw [Nat.zero_add, h.cell i c[i] (by simp [hi])]
  simp [hi]
theorem own_far {B : Nat} {w w' : World} {v v' : Value} (hg : GrB B w w' v v') (hB : B < w.heap.size) (hv : v.ownBlock ≠ some B) : v'.ownBlock ≠ some B := by
  rcases hg.own with h | ⟨k, h, hk⟩
  · rw [h]; exact hv
  · rw [h]; simp only [ne_eq, Option.some.injEq]; omega
theorem one_any (base B : Nat) (v : Value) (l : List Nat) (n : Int) (w : World) (hw : Wr w base B v l) (hb : base ≤ w.heap.size) (hl : l.length ≤ 100000) :
    Calls Try.prog 87 #[.pointer (some ⟨B, 0, none⟩), .int .i64 n] w fun e w' => e = .returned (.tuple #[]) ∧ ∃ v', Wr w' base B v' (l ++ [(n % 256).toNat]) ∧ GrB B w w' v v' := by
  have HB := Lib.hid hw.box
  have HO := Lib.hid hw.own
  have HF := Lib.hid hw.far
  have b0 := HB.out.cell 0 _ rfl
  have bl := HB.out.lt
  have bf := HB.out.frozen
  have hwr : IntKind.u8.wrap n = (((n % 256).toNat : Nat) : Int) := by simp [IntKind.wrap, IntKind.bits, IntKind.signed]; omega
  obtain ⟨z, hz⟩ : ∃ z, (n % 256).toNat = z := ⟨_, rfl⟩
  rw [hz] at hwr ⊢
  clear hw hz
  go_enter Try.func87, Try.ntmps87
  have hkA : Keeps w (w.alloc (.cells #[.int .u8 z] 5)) := (Keeps.refl w).alloc _
  go_wp2_with (refine wpList_rowsG rfl _ _ rfl B base _ _ rfl (by exact HO.out.keeps hkA) ⟨w.heap.size, 0, none⟩ 1 1 [z] rfl (by exact Box.rowU (Box.new w 5 #[.int .u8 z])) (by omega) (by simp; omega) ?hmain)
  case hmain =>
    intro v' w1 hown hg hblk
    obtain ⟨ad, cp, hv', -⟩ := hown.shape
    subst hv'
    have HB1 : Hid (Box w1 B 97 #[v]) := Lib.hid ((hblk B (by omega) HF.out).trans (HB.out.keeps hkA))
    have b1 := HB1.out.frozen
    have c1 := HB1.out.cell 0 _ rfl
    have bl1 := HB1.out.lt
    have hfar := own_far hg (by simp; omega) HF.out
    have HW : Hid (Wr (w1.setCell ⟨B, 0, none⟩ (.slice ad (u8s (l ++ [z])).length cp)) base B (.slice ad (u8s (l ++ [z])).length cp) (l ++ [z])) := Lib.hid
      ⟨heap_setCell_same w1 B 0 _ _ _ HB1.out, hown.keepsBut (KeepsBut.setCell _ _ _ _) hfar, hfar⟩
    have HG := Lib.hid (((hkA.grB B v).trans hg).put 0 (.slice ad (u8s (l ++ [z])).length cp))
    clear hown hg hblk hfar HO b0
    go_wp2_with fail
    go_end0
    exact ⟨rfl, _, HW.out, HG.out⟩
def be4 (n : Nat) : List Nat := [n / 16777216 % 256, n / 65536 % 256, n / 256 % 256, n % 256]
set_option maxRecDepth 100000 in
set_option maxHeartbeats 2000000 in
theorem four_any (base B : Nat) (v : Value) (l : List Nat) (n : Nat) (w : World) (hw : Wr w base B v l) (hb : base ≤ w.heap.size) (hl : l.length ≤ 100000) (hn : n < 9223372036854775808) :
    Calls Try.prog 88 #[.pointer (some ⟨B, 0, none⟩), .int .i64 n] w fun e w' => e = .returned (.tuple #[]) ∧ ∃ v', Wr w' base B v' (l ++ be4 n) ∧ GrB B w w' v v' := by
  have HB := Lib.hid hw.box
  have HO := Lib.hid hw.own
  have HF := Lib.hid hw.far
  have b0 := HB.out.cell 0 _ rfl
  have bl := HB.out.lt
  have bf := HB.out.frozen
  have HN := Lib.hid hn
  clear hw
  go_enter Try.func88, Try.ntmps88
  have hkA : Keeps w (w.alloc (.cells #[.int .u8 ((n : Int) / 16777216 % 256), .int .u8 ((n : Int) / 65536 % 256), .int .u8 ((n : Int) / 256 % 256), .int .u8 ((n : Int) % 256)] 5)) := (Keeps.refl w).alloc _
  have HRW : Hid (RowV (w.alloc (.cells #[.int .u8 ((n : Int) / 16777216 % 256), .int .u8 ((n : Int) / 65536 % 256), .int .u8 ((n : Int) / 256 % 256), .int .u8 ((n : Int) % 256)] 5)) (some ⟨w.heap.size, 0, none⟩) 4 (u8s (be4 n))) := Lib.hid (by
    have := Box.rowU (Box.new w 5 #[.int .u8 ((n : Int) / 16777216 % 256), .int .u8 ((n : Int) / 65536 % 256), .int .u8 ((n : Int) / 256 % 256), .int .u8 ((n : Int) % 256)])
    simpa [be4, u8s] using this)
  have hb4 : (be4 n).length = 4 := rfl
  go_wp2_with (refine wpList_rowsG rfl _ _ rfl B base _ _ rfl (by exact HO.out.keeps hkA) ⟨w.heap.size, 0, none⟩ 4 4 (be4 n) rfl (by exact HRW.out) (by omega) (by simp; omega) ?hmain)
  case hmain =>
    intro v' w1 hown hg hblk
    obtain ⟨ad, cp, hv', -⟩ := hown.shape
    subst hv'
    have HB1 : Hid (Box w1 B 97 #[v]) := Lib.hid ((hblk B (by omega) HF.out).trans (HB.out.keeps hkA))
    have b1 := HB1.out.frozen
    have c1 := HB1.out.cell 0 _ rfl
    have bl1 := HB1.out.lt
    have hfar := own_far hg (by simp; omega) HF.out
    have HW : Hid (Wr (w1.setCell ⟨B, 0, none⟩ (.slice ad (u8s (l ++ be4 n)).length cp)) base B (.slice ad (u8s (l ++ be4 n)).length cp) (l ++ be4 n)) := Lib.hid
      ⟨heap_setCell_same w1 B 0 _ _ _ HB1.out, hown.keepsBut (KeepsBut.setCell _ _ _ _) hfar, hfar⟩
    have HG := Lib.hid (((hkA.grB B v).trans hg).put 0 (.slice ad (u8s (l ++ be4 n)).length cp))
    clear hown hg hblk hfar HO b0
    go_wp2_with fail
    go_end0
    exact ⟨rfl, _, HW.out, HG.out⟩
end Go.Proofs.Ytmjodcackmjllaa
