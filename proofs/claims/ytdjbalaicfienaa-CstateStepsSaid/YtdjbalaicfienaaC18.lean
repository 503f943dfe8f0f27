/- cstate.Count: how many members there are. -/
import Derived.Test.YtdjbalaicfienaaC16
namespace Go.Proofs.Ytdjbalaicfienaa
open Go.RowKit Go.Shelf
set_option linter.unusedVariables false
set_option linter.unusedSimpArgs false
attribute [local go_sem] Oper.semAt_some

theorem memsTo_le (c : CS) (k : Nat) : (memsTo c k).length ≤ k := by
  have := List.length_filter_le (fun j : Nat => hasOf c (j : Int)) (List.range k)
  rwa [List.length_range] at this
theorem KeepsOn.setCell {n₀ B g : Nat} {W : World} (h1 : n₀ ≤ g) (h2 : g ≠ B) (v : Value) : KeepsOn n₀ B W (W.setCell ⟨g, 0, none⟩ v) :=
  have h := KeepsBut.setCell W g 0 v
  ⟨h.os, h.tape, h.output, h.size, fun k hk hl => h.block k (by omega) (by omega)⟩
/-- what the loop keeps of its own cells -/
def CountI (w : World) (pre : List Nat) (W : World) : Prop := Boxed W (w.heap.size + 1) 3 (.int .i64 (pre.length : Int)) ∧ Below w.heap.size w W
theorem CountI.own (w : World) (D : Nat) (hD : w.heap.size ≤ D) : Go.OwnFrom D (CountI w) := by
  unfold CountI
  exact Go.OwnFrom.and (Go.Own.from (boxed_own _ _ (fun _ => _)) _) (ownFrom_below (Nat.le_refl _) hD)
theorem onK_b {n₀ B : Nat} {w : World} (hn : n₀ ≤ w.heap.size) (hB : B < w.heap.size) (W : World) (l : Nat) (o o' : Obj) (hl : w.heap.size ≤ l) (h : W.heap[l]? = some o) (h1 : o.isCells = false) (h2 : o.isWalk = false) : KeepsOn n₀ B W (W.putObj l o') :=
  Below.on (n := w.heap.size) (belowK_b (w := w) (Nat.le_refl _) W l o o' hl h h1 h2) hn hB (by simp)

set_option maxRecDepth 100000 in
set_option maxHeartbeats 2000000 in
theorem count_any (c : CS) (w : World) :
    Calls Try.prog 33 #[c.val] w fun e w' => e = .returned (.int .i64 (memsTo c 8).length) ∧ Keeps w w' := by
  obtain ⟨t, p, m, x, b⟩ := c
  refine (callsIn_wide (n := 4)).1 ?_
  refine callsIn_of_wp_marks Try.func33 rfl trivial ?_ rfl
  simp only [Try.ntmps33, List.size_toArray, List.length_cons, List.length_nil, Nat.reduceAdd, Nat.reduceSub, Array.replicate_succ, Array.replicate_zero, List.push_toArray, List.append_toArray, List.nil_append, List.cons_append]
  gi_wp2_with fail
  refine ⟨trivial, ?_⟩
  with_reducible refine (callsIn_wide.2 (members_any ⟨t, p, m, x, b⟩ _)).mono ?_
  rintro e w1 ⟨rfl, rfl⟩
  gi_wp2_with fail
  have b1 := Boxed.new (w.alloc (.cells #[.int .i64 t, .int .i64 p, .int .i64 m, .int .i64 x, .int .i64 b] 23)) 3 (.int .i64 0)
  have hb := Box.new ((w.alloc (.cells #[.int .i64 t, .int .i64 p, .int .i64 m, .int .i64 x, .int .i64 b] 23)).alloc (.cells #[.int .i64 0] 3)) 23 #[.int .i64 t, .int .i64 p, .int .i64 m, .int .i64 x, .int .i64 b]
  simp only [World.size_alloc] at b1 hb
  have hB0 : Below w.heap.size w (((w.alloc (.cells #[.int .i64 t, .int .i64 p, .int .i64 m, .int .i64 x, .int .i64 b] 23)).alloc (.cells #[.int .i64 0] 3)).alloc (.cells #[.int .i64 t, .int .i64 p, .int .i64 m, .int .i64 x, .int .i64 b] 23)) := (((Below.refl _ w).alloc (Nat.le_refl _) _).alloc (by simp) _).alloc (by simp; omega) _
  have hk0 : Keeps w (((w.alloc (.cells #[.int .i64 t, .int .i64 p, .int .i64 m, .int .i64 x, .int .i64 b] 23)).alloc (.cells #[.int .i64 0] 3)).alloc (.cells #[.int .i64 t, .int .i64 p, .int .i64 m, .int .i64 x, .int .i64 b] 23)) := (((Keeps.refl w).alloc _).alloc _).alloc _
  have HST := Lib.hid (mems_stops 3 (by decide) (w.heap.size + 1 + 1) ⟨t, p, m, x, b⟩ w _ hk0 hb)
  have hle := memsTo_le ⟨t, p, m, x, b⟩ 8
  clear hk0
  refine wpIn_rangeFunc_ownG rfl (by omega) (gf := 71) (lb := #[.pointer (some ⟨w.heap.size + 1 + 1, 0, none⟩)]) rfl trivial (fun _ _ => by kernel_rfl)
    HST.out KeepsOn.trans (onK_b (by simp; omega) (by simp)) (Below.refl _ _) (fun _ => rfl)
    (CountI w) (fun _ _ _ => False) (CountI.own w _ (by simp; omega)) (fun _ _ _ _ _ h _ _ => h)
    ⟨b1.alloc _, hB0⟩
    (fun q => { tmps := #[CS.val ⟨t, p, m, x, b⟩, .pointer (some ⟨w.heap.size, 0, none⟩), .int .i64 0, .pointer (some ⟨w.heap.size + 1, 0, none⟩), .agg #[.int .i64 t, .int .i64 p, .int .i64 m, .int .i64 x, .int .i64 b],
      .func (.func 71) #[] #[.pointer (some ⟨w.heap.size + 1 + 1, 0, none⟩)], .int .i64 (q : Int), undef, undef, undef], defers := [] }) ?assign ?body ?done ?stop
  case assign =>
    intro l q W K hK
    gi_wp2
    simpa using hK
  case body =>
    rintro l pre q W hI hlt
    have HI := Lib.hid hI
    obtain ⟨hb1, hB⟩ := hI
    have hc3 := hb1.cell
    have hf3 := hb1.frozen
    have hw1 : IntKind.i64.wrap ((pre.length : Int) + 1) = (pre.length : Int) + 1 := IntWalk.i64_in _ (by omega)
    have hl3 := hb1.lt
    gi_wp2
    refine ⟨(KeepsOthers.setCell _ _ _).from _, KeepsOn.setCell (by omega) (by omega) _, ?_, hB.setCell (p := ⟨w.heap.size + 1, 0, none⟩) (by simp) _⟩
    rw [List.length_append]
    exact hb1.set _
  case done =>
    rintro D ys W hD rfl hI hK
    obtain ⟨hb1, hB⟩ := hI
    have hc3 := hb1.cell
    have HB := Lib.hid hB
    have HKD := Lib.hid hK
    clear hB hK
    gi_wp2
    have hD2 : w.heap.size ≤ D := by simp at hD; omega
    refine ⟨by simp, .inl ⟨_, _, rfl, run_takeDeferred HKD.out, ?_⟩⟩
    refine ⟨_, ?_, rfl, ?_⟩
    · simp [results, Try.results33, go_sem]
    · exact HB.out.trans (belowK_b (w := w) (Nat.le_refl _) _ D _ _ (by omega) HKD.out rfl rfl)
  case stop =>
    intro D c pre W hD hpre h hK
    exact h.elim
end Go.Proofs.Ytdjbalaicfienaa
