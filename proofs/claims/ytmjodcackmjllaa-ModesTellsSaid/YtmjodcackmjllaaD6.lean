/- Layer 10, 6: what is told. -/
import Derived.Test.YtmjodcackmjllaaD3
import Derived.Maps.AppendAt
namespace Go.Proofs.Ytmjodcackmjllaa
open Go.RowKit Go.Shelf
set_option linter.unusedVariables false
set_option linter.unusedSimpArgs false
attribute [local go_sem] Oper.semAt_some
theorem SeqStopsK.weaken {α : Type} {F : Fence} {n : Nat} {P : Program} {g : Nat} {lb : Array Value} {encs : α → Array Value} {Kp Kp' : World → World → Prop} {S Sp : List α → Prop} {N : Nat} {w : World}
    (h : SeqStopsK F n P g lb encs Kp S Sp N w) (hk : ∀ a b, Kp' a b → Kp a b) : SeqStopsK F n P g lb encs Kp' S Sp N w :=
  fun l J Jx W hW hJ hJx hY h0 => h l J Jx W hW hJ hJx (fun pre x W1 h1 h2 => by
    obtain ⟨fn, tmps, asg, bo, hy, hR⟩ := hY pre x W1 h1 h2
    refine ⟨fn, tmps, asg, bo, hy, hR.mono ?_⟩
    rintro e W' (⟨h3, h4, h5⟩ | h3)
    · exact .inl ⟨h3, h4, hk _ _ h5⟩
    · exact .inr h3) h0
theorem ownsRow_slice {W : World} {base : Nat} {e : TypeId} {size : Nat} {v : Value} {k : Nat} {xs : List Value} (h : W.ownsRow base e size v k xs) : ∃ a cap, v = .slice a k cap ∧ k ≤ cap ∧ cap ≤ maxLen := by
  rcases h.2 with ⟨rfl, rfl⟩ | ⟨g, cap, cur, rfl, hb, hg, hn, hm, _⟩
  · exact ⟨none, 0, rfl, Nat.le_refl _, by decide⟩
  · exact ⟨_, cap, rfl, hn, hm⟩
theorem Boxed.below {W W' : World} {n B t : Nat} {v : Value} (h : Boxed W B t v) (hb : Below n W W') (hB : B < n) : Boxed W' B t v := (Below.block hb B hB).trans h
theorem info_int4 : (Try.prog.info? 3).map (fun i => (i.zero, i.size, i.bytes)) = some (some (.int .i64 0), 1, 8) := by kernel_rfl
abbrev i64s (l : List Nat) : List Value := l.map fun (j : Nat) => Value.int .i64 (j : Int)
/-- what the loop keeps of its own cells -/
def ToldI (w : World) (most : Nat) (pre : List Nat) (W : World) : Prop :=
  (∃ v, Boxed W (w.heap.size + 1) 34 v ∧ W.ownsRow (w.heap.size + 1) 3 1 v pre.length (i64s pre) ∧ True) ∧
    Boxed W w.heap.size 3 (.int .i64 most) ∧ Below w.heap.size w W ∧ pre.length ≤ most
theorem ToldI.own (w : World) (most D : Nat) (hD : w.heap.size ≤ D) : Go.OwnFrom D (ToldI w most) := by
  unfold ToldI
  refine Go.OwnFrom.and (Go.Own.from (holdsRow_own (w.heap.size + 1) (w.heap.size + 1) 34 3 1 (fun pre : List Nat => pre.length) (fun pre => i64s pre) (fun _ _ => True)) _)
    (Go.OwnFrom.and (Go.Own.from (boxed_own _ _ (fun _ => _)) _) (Go.OwnFrom.and (ownFrom_below (Nat.le_refl _) hD) (ownFrom_pure _ _)))
def ToldX (w : World) (most id : Nat) (c : Code) (pre : List Nat) (W : World) : Prop :=
  c = .exit id ∧ ∃ ini x, pre = ini ++ [x] ∧ ini.length = most ∧ ToldI w most ini W
theorem ToldX.own (w : World) (most id D : Nat) (hD : w.heap.size ≤ D) (c : Code) : Go.OwnFrom D (ToldX w most id c) := by
  intro s X Y row hs hg hr
  obtain ⟨h1, ini, x, h2, h3, h4⟩ := hs
  exact ⟨h1, ini, x, h2, h3, ToldI.own w most D hD ini X Y row h4 hg hr⟩

set_option maxRecDepth 100000 in
set_option maxHeartbeats 2000000 in
theorem told_any (L0 : List Nat) (most : Nat) (g : Nat) (lb : Array Value) (Kp : World → World → Prop) (w : World) (hmost : most ≤ 100000)
    (hg : ∀ args w, (callFunc g args).run Try.prog w = .ok (.enter g args) w) (hKp : ∀ a b, Below w.heap.size a b → Kp a b)
    (hst : SeqStopsK Fence.wide 3 Try.prog g lb (fun p : Nat => #[Value.int .i64 (p : Int)]) Kp (fun ys => ys = L0) (fun pre => pre <+: L0) L0.length w) :
    Calls Try.prog 17 #[.func (.func g) #[] lb, .int .i64 most] w fun e w' => ∃ v, e = .returned v ∧ Own w' w.heap.size 3 v (i64s (L0.take most)) ∧ Keeps w w' := by
  obtain ⟨L, hL⟩ : ∃ L, L = L0.take most := ⟨_, rfl⟩
  rw [← hL]
  have HT := Lib.hid hL
  clear hL
  have HST := Lib.hid (SeqStopsK.weaken hst hKp)
  have HG := Lib.hid hg
  clear hst hg hKp
  obtain ⟨i0, hi, hz0, hz1, hz2⟩ := info_parts info_int4
  have hnil : ∀ w, (binOp .eql 37 (.func (.func g) #[] lb) .nilFunc).run Try.prog w = .ok (.bool false) w := fun _ => by kernel_rfl
  refine (callsIn_wide (n := 4)).1 ?_
  refine callsIn_of_wp_marks Try.func17 rfl trivial ?_ rfl
  simp only [Try.ntmps17, List.size_toArray, List.length_cons, List.length_nil, Nat.reduceAdd, Nat.reduceSub, Array.replicate_succ, Array.replicate_zero, List.push_toArray, List.append_toArray, List.nil_append, List.cons_append]
  gi_wp2_with fail
  have b0 := Boxed.new w 3 (.int .i64 most)
  have b1 := Boxed.new (w.alloc (.cells #[.int .i64 most] 3)) 34 (.slice none 0 0)
  simp only [World.size_alloc] at b1
  have hB0 : Below w.heap.size w ((w.alloc (.cells #[.int .i64 most] 3)).alloc (.cells #[.slice none 0 0] 34)) := ((Below.refl _ w).alloc (Nat.le_refl _) _).alloc (by simp) _
  refine wpIn_rangeFunc_ownG rfl (by omega) (gf := g) (lb := lb) rfl trivial HG.out
    HST.out belowK_t (belowK_b (by simp; omega)) hB0 (fun _ => rfl)
    (ToldI w most) (ToldX w most 0) (ToldI.own w most _ (by simp; omega)) (ToldX.own w most 0 _ (by simp; omega))
    ⟨⟨_, b1, World.ownsRow_nil _ _ _ _, trivial⟩, b0.alloc _, hB0, Nat.zero_le _⟩
    (fun p => { tmps := #[.func (.func g) #[] lb, .int .i64 most, undef, .pointer (some ⟨w.heap.size, 0, none⟩), .slice none 0 0, .pointer (some ⟨w.heap.size + 1, 0, none⟩), .int .i64 (p : Int),
      .func (.func g) #[] lb, .bool false, .func (.func g) #[] lb, .int .i64 (p : Int), undef, undef, undef, undef, undef, undef, undef, undef, undef], defers := [] }) ?assign ?body ?done ?stop
  case assign =>
    intro l x W K hK
    gi_wp2
    exact hK
  case body =>
    rintro l pre p W hI hlt
    have HI := Lib.hid hI
    obtain ⟨⟨v, hv, hrow, -⟩, hb1, hB, hle⟩ := hI
    obtain ⟨va, vc, rfl, hvc, hvm⟩ := ownsRow_slice hrow
    have hc6 := hv.cell
    have hc3 := hb1.cell
    by_cases hm : most ≤ pre.length
    · have hd1 : decide (most ≤ pre.length) = true := by simpa using hm
      gi_wp2
      exact ⟨KeepsFrom.refl _ _, rfl, pre, p, rfl, by omega, HI.out⟩
    have hd1 : decide (most ≤ pre.length) = false := by simpa using hm
    have hlv := hv.lt
    gi_wp2_with (gi_at_builtin; refine wpListIn_append_own _ rfl _ _ 34 rfl (w.heap.size + 1) 3 i0 (.int .i64 0) 1 8 Try.underlying34 hi hz0 hz1 hz2 rfl (by decide) _ _ _ rfl (hrow.alloc _) ⟨W.heap.size, 0, none⟩ 1 1 [.int .i64 (p : Int)] rfl rfl (cell_one_new _ _ _) (by simp [Value.oneCell']) (by unfold maxLen; omega) (by omega) (by simp; omega) ?_; intro v' w1 hown' hgrow _; obtain ⟨g', cap', rfl⟩ := ownsRow_succ hown'; obtain ⟨hv1, hv2, hr2, hk2, hb4⟩ := hv.appended (by decide) hrow (by omega) (Nat.le_refl _) hown' hgrow; have hc1 := hv1.cell; have hf1 := hv1.frozen)
    refine ⟨hk2.from _, hb4.mono (by omega), ⟨⟨_, hv2, by simpa using hr2, trivial⟩, Boxed.below hb1 hb4 (by omega), hB.trans (hb4.mono (by omega)), by simp; omega⟩⟩
  case done =>
    rintro D ys W hD rfl hI hK
    obtain ⟨⟨v, hv, hrow, -⟩, hb1, hB, hle⟩ := hI
    have hbt : ys.take most = ys := List.take_of_length_le hle
    rw [hbt] at HT
    have hc6 := hv.cell
    have HB := Lib.hid hB
    have HKD := Lib.hid hK
    have HR := Lib.hid hrow
    clear hB hK hrow hb1
    obtain ⟨va, vc, rfl, hvc, hvm⟩ := ownsRow_slice HR.out
    gi_wp2
    have hD2 : w.heap.size ≤ D := by simp at hD; omega
    refine ⟨by simp, .inl ⟨_, _, rfl, run_takeDeferred HKD.out, ?_⟩⟩
    refine ⟨.slice va ys.length vc, ?_, _, rfl, Own.mono (base := w.heap.size + 1) ?_ (by omega), ?_⟩
    · simp [results, Try.results17, go_sem]
    · unfold Own
      rw [List.length_map, HT.out]
      exact ownsRow_putObj HR.out (.deferred none) HKD.out rfl
    · exact HB.out.trans (belowK_b (w := w) (Nat.le_refl _) _ D _ _ (by omega) HKD.out rfl rfl)
  case stop =>
    rintro D c pre W hD hpre ⟨rfl, ini, x, rfl, e2, hI⟩ hK
    have hini : L0.take most = ini := by
      obtain ⟨t, ht⟩ := hpre
      rw [← ht, List.append_assoc, ← e2, List.take_left]
    rw [hini] at HT
    clear hini hpre e2
    obtain ⟨⟨v, hv, hrow, -⟩, hb1, hB, hle⟩ := hI
    have hc6 := hv.cell
    have HB := Lib.hid hB
    have HKD := Lib.hid hK
    have HR := Lib.hid hrow
    clear hB hK hrow hb1
    obtain ⟨va, vc, rfl, hvc, hvm⟩ := ownsRow_slice HR.out
    gi_wp2
    have hD2 : w.heap.size ≤ D := by simp at hD; omega
    refine ⟨by simp, .inl ⟨_, _, rfl, run_takeDeferred HKD.out, ?_⟩⟩
    refine ⟨.slice va ini.length vc, ?_, _, rfl, Own.mono (base := w.heap.size + 1) ?_ (by omega), ?_⟩
    · simp [results, Try.results17, go_sem]
    · unfold Own
      rw [List.length_map, HT.out]
      exact ownsRow_putObj HR.out (.deferred none) HKD.out rfl
    · exact HB.out.trans (belowK_b (w := w) (Nat.le_refl _) _ D _ _ (by omega) HKD.out rfl rfl)
/-- Nexts' value, told -/
theorem nexts_told (m : RMedl) (c : CS) (w : World) (hm : m.In w) (most : Nat) (av : Int) (hav : av = most) (hmm : most ≤ 100000) :
    Calls Try.prog 17 #[.func (.func 57) #[] #[.pointer (some ⟨w.heap.size, 0, none⟩), .pointer (some ⟨w.heap.size + 1, 0, none⟩)], .int .i64 av] ((w.alloc (.cells #[.int .i64 m.nodes, .int .i64 m.slot, .int .i64 m.gap, .int .i64 m.window, .int .i64 m.drift, .int .i64 m.delay, m.cv, .slice m.ma m.mn m.mc] 25)).alloc (.cells #[.int .i64 c.t, .int .i64 c.p, .int .i64 c.m, .int .i64 c.x, .int .i64 c.b] 27)) fun e w' =>
      ∃ v, e = .returned v ∧ Ints w' v (((nextsP m c).take most).map fun j : Nat => (j : Int)) ∧ Keeps w w' := by
  subst hav
  have hB := (Box.new w 25 #[.int .i64 m.nodes, .int .i64 m.slot, .int .i64 m.gap, .int .i64 m.window, .int .i64 m.drift, .int .i64 m.delay, m.cv, .slice m.ma m.mn m.mc]).next (.cells #[.int .i64 c.t, .int .i64 c.p, .int .i64 c.m, .int .i64 c.x, .int .i64 c.b] 27)
  have hA := Box.new (w.alloc (.cells #[.int .i64 m.nodes, .int .i64 m.slot, .int .i64 m.gap, .int .i64 m.window, .int .i64 m.drift, .int .i64 m.delay, m.cv, .slice m.ma m.mn m.mc] 25)) 27 #[.int .i64 c.t, .int .i64 c.p, .int .i64 c.m, .int .i64 c.x, .int .i64 c.b]
  rw [World.size_alloc] at hA
  have hk := ((Keeps.refl w).alloc (.cells #[.int .i64 m.nodes, .int .i64 m.slot, .int .i64 m.gap, .int .i64 m.window, .int .i64 m.drift, .int .i64 m.delay, m.cv, .slice m.ma m.mn m.mc] 25)).alloc (.cells #[.int .i64 c.t, .int .i64 c.p, .int .i64 c.m, .int .i64 c.x, .int .i64 c.b] 27)
  have hlt := hA.lt
  refine (told_any (nextsP m c) most 57 _ (KeepsS (onF w.heap.size w.heap.size)) _ hmm (enters_of Try.func57 (by kernel_rfl) rfl)
    (fun a b h => Below.onS h (fun k hk => by rcases hk with h | h | h <;> omega) (Below.size h)) (nexts_stops 3 (by omega) w.heap.size m c w _ hm hk hB hA)).mono ?_
  rintro e w' ⟨v, rfl, ho, hk2⟩
  exact ⟨v, rfl, Own.ints (by rw [List.map_map]; exact ho), hk.trans hk2⟩
end Go.Proofs.Ytmjodcackmjllaa
