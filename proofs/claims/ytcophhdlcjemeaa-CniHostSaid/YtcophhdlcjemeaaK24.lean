/- cni.fresh: the slots whose message ever came, as a list. -/
import Derived.Test.YtcophhdlcjemeaaK19
namespace Go.Proofs.Ytcophhdlcjemeaa
open Go.RowKit Go.Shelf
set_option linter.unusedVariables false
set_option linter.unusedSimpArgs false
attribute [local go_sem] Oper.semAt_some
theorem KeepsS.grown {S : Nat → Prop} {a b : World} {row : Option Nat} (hg : a.grownBy b row) (hr : ∀ j, row = some j → ¬ S j) : KeepsS S a b :=
  ⟨hg.os, hg.tape, hg.output, hg.size, fun k hk hl => hg.block k hl (fun e => hr k e.symm hk)⟩
theorem KeepsS.setCell {S : Nat → Prop} (W : World) (b : Nat) (v : Value) (hb : ¬ S b) : KeepsS S W (W.setCell ⟨b, 0, none⟩ v) :=
  have h := KeepsBut.setCell W b 0 v
  ⟨h.os, h.tape, h.output, h.size, fun k hk hl => h.block k (by omega) (fun e => hb (by rw [← e]; exact hk))⟩
theorem onS_b {S : Nat → Prop} {w : World} (hS : ∀ k, S k → k < w.heap.size) (W : World) (l : Nat) (o o' : Obj) (hl : w.heap.size ≤ l) (h : W.heap[l]? = some o) (h1 : o.isCells = false) (h2 : o.isWalk = false) : KeepsS S W (W.putObj l o') :=
  Below.onS (n := w.heap.size) (belowK_b (w := w) (Nat.le_refl _) W l o o' hl h h1 h2) hS (by simp)
theorem ownsRow_mono {W : World} {base base' e size k : Nat} {v : Value} {xs : List Value} (h : W.ownsRow base e size v k xs) (hb : base' ≤ base) : W.ownsRow base' e size v k xs := by
  refine ⟨h.1, ?_⟩
  rcases h.2 with hn | ⟨g, cap, cur, hv, hbg, rest⟩
  · exact .inl hn
  · exact .inr ⟨g, cap, cur, hv, Nat.le_trans hb hbg, rest⟩
/-- what the loop keeps of its own cells -/
def FreshI (w : World) (pre : List Nat) (W : World) : Prop :=
  (∃ v, Boxed W (w.heap.size + 1) 57 v ∧ W.ownsRow (w.heap.size + 4) 3 1 v pre.length (i64s pre) ∧ True) ∧ Below w.heap.size w W ∧ w.heap.size + 4 ≤ W.heap.size
theorem FreshI.own (w : World) (D : Nat) (hD : w.heap.size ≤ D) : Go.OwnFrom D (FreshI w) := by
  unfold FreshI
  exact Go.OwnFrom.and (Go.Own.from (holdsRow_own (w.heap.size + 4) (w.heap.size + 1) 57 3 1 (fun pre : List Nat => pre.length) (fun pre => i64s pre) (fun _ _ => True)) _) (Go.OwnFrom.and (ownFrom_below (Nat.le_refl _) hD) (fun _ X Y row h hg _ => Nat.le_trans h hg.size))
set_option maxRecDepth 100000 in
set_option maxHeartbeats 2000000 in
theorem freshl_any (c : RCni) (w : World) (hc : c.In w) :
    Calls Try.prog 67 #[c.val] w fun e w' => ∃ v, e = .returned v ∧ Ints w' v ((freshP c.p 255).map fun j : Nat => (j : Int)) ∧ Keeps w w' := by
  have hF8 : (freshP c.p 255).length ≤ 8 := by
    unfold freshP
    cases h : cniOk c.p
    · simp
    · simp only [cond_true]
      have := ((cniOk_iff c.p).1 h).1
      have h2 := freshTo_le c.p.ms 255 c.p.ms.length
      omega
  have HFS := Lib.hid (fun (B : Nat) (w0 W : World) (h0 : c.In w0) => fresh_stops 3 (by omega) B c 255 w0 W h0)
  have HFF := Lib.hid (freshf_any c 255)
  have HC := Lib.hid hc
  clear hc
  obtain ⟨FL, hFL⟩ : ∃ FL, FL = freshP c.p 255 := ⟨_, rfl⟩
  rw [← hFL] at HFS hF8 ⊢
  clear hFL
  obtain ⟨id, ⟨oa, olen, ocap, ol⟩, ia, n, cap, ms, life, want⟩ := c
  simp only at HFS HFF
  obtain ⟨i0, hi, hz0, hz1, hz2⟩ := info_parts info_int4
  refine (callsIn_wide (n := 4)).1 ?_
  refine callsIn_of_wp_marks Try.func67 rfl trivial ?_ rfl
  simp only [Try.ntmps67, List.size_toArray, List.length_cons, List.length_nil, Nat.reduceAdd, Nat.reduceSub, Array.replicate_succ, Array.replicate_zero, List.push_toArray, List.append_toArray, List.nil_append, List.cons_append]
  gi_wp2_with fail
  refine ⟨trivial, ?_⟩
  with_reducible refine (callsIn_wide.2 (HFF.out _)).mono ?_
  rintro e w1 ⟨rfl, rfl⟩
  gi_wp2_with fail
  have b1 := ((Boxed.new (w.alloc (.cells #[.int .i64 id, .slice oa olen ocap, .slice ia n cap, .int .i64 life, .int .i64 want] 39)) 57 (.slice none 0 0)).alloc (.cells #[.int .i64 id, .slice oa olen ocap, .slice ia n cap, .int .i64 life, .int .i64 want] 39)).alloc (.cells #[.int .i64 255] 3)
  have hk2 : Keeps w ((w.alloc (.cells #[.int .i64 id, .slice oa olen ocap, .slice ia n cap, .int .i64 life, .int .i64 want] 39)).alloc (.cells #[.slice none 0 0] 57)) := ((Keeps.refl w).alloc _).alloc _
  have hb := (Box.new ((w.alloc (.cells #[.int .i64 id, .slice oa olen ocap, .slice ia n cap, .int .i64 life, .int .i64 want] 39)).alloc (.cells #[.slice none 0 0] 57)) 39 #[.int .i64 id, .slice oa olen ocap, .slice ia n cap, .int .i64 life, .int .i64 want]).next (.cells #[.int .i64 255] 3)
  have ha := Box.new (((w.alloc (.cells #[.int .i64 id, .slice oa olen ocap, .slice ia n cap, .int .i64 life, .int .i64 want] 39)).alloc (.cells #[.slice none 0 0] 57)).alloc (.cells #[.int .i64 id, .slice oa olen ocap, .slice ia n cap, .int .i64 life, .int .i64 want] 39)) 3 #[.int .i64 255]
  simp only [World.size_alloc] at b1 hb ha
  have hB0 : Below w.heap.size w ((((w.alloc (.cells #[.int .i64 id, .slice oa olen ocap, .slice ia n cap, .int .i64 life, .int .i64 want] 39)).alloc (.cells #[.slice none 0 0] 57)).alloc (.cells #[.int .i64 id, .slice oa olen ocap, .slice ia n cap, .int .i64 life, .int .i64 want] 39)).alloc (.cells #[.int .i64 255] 3)) := ((((Below.refl _ w).alloc (Nat.le_refl _) _).alloc (by simp) _).alloc (by simp; omega) _).alloc (by simp; omega) _
  have hk0 : Keeps w ((((w.alloc (.cells #[.int .i64 id, .slice oa olen ocap, .slice ia n cap, .int .i64 life, .int .i64 want] 39)).alloc (.cells #[.slice none 0 0] 57)).alloc (.cells #[.int .i64 id, .slice oa olen ocap, .slice ia n cap, .int .i64 life, .int .i64 want] 39)).alloc (.cells #[.int .i64 255] 3)) := (hk2.alloc _).alloc _
  have HST := Lib.hid (HFS.out (w.heap.size + 1 + 1) w ((((w.alloc (.cells #[.int .i64 id, .slice oa olen ocap, .slice ia n cap, .int .i64 life, .int .i64 want] 39)).alloc (.cells #[.slice none 0 0] 57)).alloc (.cells #[.int .i64 id, .slice oa olen ocap, .slice ia n cap, .int .i64 life, .int .i64 want] 39)).alloc (.cells #[.int .i64 255] 3)) HC.out hk0 hb ha)
  clear hk0 hk2 hb ha
  refine wpIn_rangeFunc_ownG rfl (by omega) (gf := 65) (lb := #[.pointer (some ⟨w.heap.size + 1 + 1, 0, none⟩), .pointer (some ⟨w.heap.size + 1 + 1 + 1, 0, none⟩)]) rfl trivial (enters_of Try.func65 (by kernel_rfl) rfl)
    HST.out KeepsS.trans (onS_b (fun k hk => by rcases hk with h | h | h <;> simp <;> omega)) (Below.refl _ _) (fun _ => rfl)
    (FreshI w) (fun _ _ _ => False) (FreshI.own w _ (by simp; omega)) (fun _ _ _ _ _ h _ _ => h)
    ⟨⟨_, b1, World.ownsRow_nil _ _ _ _, trivial⟩, hB0, by simp⟩
    (fun p => { tmps := #[RCni.val ⟨id, ⟨oa, olen, ocap, ol⟩, ia, n, cap, ms, life, want⟩, .pointer (some ⟨w.heap.size, 0, none⟩), .slice none 0 0, .pointer (some ⟨w.heap.size + 1, 0, none⟩), .int .i64 (p : Int), .agg #[.int .i64 id, .slice oa olen ocap, .slice ia n cap, .int .i64 life, .int .i64 want],
      .func (.func 65) #[] #[.pointer (some ⟨w.heap.size + 1 + 1, 0, none⟩), .pointer (some ⟨w.heap.size + 1 + 1 + 1, 0, none⟩)], .int .i64 (p : Int), undef, undef, undef, undef, undef], defers := [] }) ?assign ?body ?done ?stop
  case assign =>
    intro l x W K hK
    gi_wp2
    simpa using hK
  case body =>
    rintro l pre p W hI hlt
    have HI := Lib.hid hI
    obtain ⟨⟨v, hv, hrow, -⟩, hB, hWs⟩ := hI
    obtain ⟨va, vc, rfl, hvc, hvm⟩ := ownsRow_slice hrow
    have hc6 := hv.cell
    have hlv := hv.lt
    gi_wp2_with (gi_at_builtin; refine wpListIn_append_own _ rfl _ _ 57 rfl (w.heap.size + 4) 3 i0 (.int .i64 0) 1 8 Try.underlying57 hi hz0 hz1 hz2 rfl (by decide) _ _ _ rfl (hrow.alloc _) ⟨W.heap.size, 0, none⟩ 1 1 [.int .i64 (p : Int)] rfl rfl (cell_one_new _ _ _) (by simp [Value.oneCell']) (by unfold maxLen; omega) (by omega) (by simp; omega) ?_; intro v' w1 hown' hgrow _; obtain ⟨g', cap', rfl⟩ := ownsRow_succ hown'; obtain ⟨hv1, hv2, hr2, hk2, hb4⟩ := hv.appended (by decide) (ownsRow_mono hrow (by omega)) (by omega) (Nat.le_refl _) (ownsRow_mono hown' (show w.heap.size + 1 ≤ _ by omega)) hgrow; have hc1 := hv1.cell; have hf1 := hv1.frozen)
    have hr4 := World.ownsRow.kept hown' (grownBy_setCell' w1 (w.heap.size + 1) (.slice (some ⟨g', 0, none⟩) (pre.length + 1) cap')) (.inr (hv1.not_row (by decide) hown').symm)
    have hks : KeepsS (onF w.heap.size (w.heap.size + 1 + 1)) W (w1.setCell ⟨w.heap.size + 1, 0, none⟩ (.slice (some ⟨g', 0, none⟩) (pre.length + 1) cap')) := by
      refine KeepsS.trans (KeepsS.trans (((Keeps.refl W).alloc _).onS _) (KeepsS.grown hgrow (fun j ej hj => ?_))) (KeepsS.setCell _ _ _ (fun h => ?_))
      · have h1 := (World.ownsRow.lt hrow j ej).1
        rcases hj with h | h | h
        · omega
        · omega
        · omega
      · rcases h with h | h | h <;> omega
    exact ⟨hk2.from _, hks, ⟨_, hv2, by simpa using hr4, trivial⟩, hB.trans (hb4.mono (by omega)), Nat.le_trans hWs hks.size⟩
  case done =>
    rintro D ys W hD rfl hI hK
    obtain ⟨⟨v, hv, hrow, -⟩, hB, hWs⟩ := hI
    have hc6 := hv.cell
    have HB := Lib.hid hB
    have HKD := Lib.hid hK
    have HR := Lib.hid hrow
    clear hB hK hrow
    obtain ⟨va, vc, rfl, hvc, hvm⟩ := ownsRow_slice HR.out
    gi_wp2
    have hD2 : w.heap.size ≤ D := by simp at hD; omega
    refine ⟨by simp, .inl ⟨_, _, rfl, run_takeDeferred HKD.out, ?_⟩⟩
    refine ⟨.slice va ys.length vc, ?_, _, rfl, Own.ints (base := w.heap.size + 4) (t := 3) ?_, ?_⟩
    · simp [results, Try.results67, go_sem]
    · unfold Own
      rw [List.map_map, List.length_map]
      exact ownsRow_putObj HR.out (.deferred none) HKD.out rfl
    · exact HB.out.trans (belowK_b (w := w) (Nat.le_refl _) _ D _ _ (by omega) HKD.out rfl rfl)
  case stop =>
    intro D c pre W hD hpre h hK
    exact h.elim
end Go.Proofs.Ytcophhdlcjemeaa
